/- The table of this seat's types: sizes, kinds, places of fields, each held against the program. -/
import Derived.Test.YtjjpjgnoanfaoaaTO
import Derived.Test.YtjjpjgnoanfaoaaProg
import Derived.KernelRfl
namespace Go.Proofs.Ytjjpjgnoanfaoaa.T
open Go Go.RowKit

def T2 : TI := ⟨1, 8, false, [.int .i64 0], [1], (.int .i64), 0, [], []⟩

theorem ok2 : TI.Ok Try.prog 2 T2 := ⟨⟨Try.t2, _, (by kernel_rfl : Try.prog.info? 2 = some Try.t2), rfl, rfl, rfl, rfl⟩, ⟨_, Try.underlying2, rfl, rfl, trivial, fun h => absurd rfl h⟩, ⟨rfl, rfl⟩, fun _ => ⟨Try.t2, _, (by kernel_rfl : Try.prog.info? 2 = some Try.t2), rfl, rfl⟩⟩

def T3 : TI := ⟨1, 8, false, [.int .i64 0], [1], (.int .i64), 0, [], []⟩

theorem ok3 : TI.Ok Try.prog 3 T3 := ⟨⟨Try.t3, _, (by kernel_rfl : Try.prog.info? 3 = some Try.t3), rfl, rfl, rfl, rfl⟩, ⟨_, Try.underlying3, rfl, rfl, trivial, fun h => absurd rfl h⟩, ⟨rfl, rfl⟩, fun _ => ⟨Try.t3, _, (by kernel_rfl : Try.prog.info? 3 = some Try.t3), rfl, rfl⟩⟩

def T4 : TI := ⟨1, 1, false, [.bool false], [1], .bool, 0, [], []⟩

theorem ok4 : TI.Ok Try.prog 4 T4 := ⟨⟨Try.t4, _, (by kernel_rfl : Try.prog.info? 4 = some Try.t4), rfl, rfl, rfl, rfl⟩, ⟨_, Try.underlying4, rfl, rfl, trivial, fun h => absurd rfl h⟩, ⟨rfl, rfl⟩, fun _ => ⟨Try.t4, _, (by kernel_rfl : Try.prog.info? 4 = some Try.t4), rfl, rfl⟩⟩

def T5 : TI := ⟨1, 1, false, [.int .u8 0], [1], (.int .u8), 0, [], []⟩

theorem ok5 : TI.Ok Try.prog 5 T5 := ⟨⟨Try.t5, _, (by kernel_rfl : Try.prog.info? 5 = some Try.t5), rfl, rfl, rfl, rfl⟩, ⟨_, Try.underlying5, rfl, rfl, trivial, fun h => absurd rfl h⟩, ⟨rfl, rfl⟩, fun _ => ⟨Try.t5, _, (by kernel_rfl : Try.prog.info? 5 = some Try.t5), rfl, rfl⟩⟩

def T6 : TI := ⟨1, 1, false, [.int .u8 0], [1], (.int .u8), 0, [], []⟩

theorem ok6 : TI.Ok Try.prog 6 T6 := ⟨⟨Try.t6, _, (by kernel_rfl : Try.prog.info? 6 = some Try.t6), rfl, rfl, rfl, rfl⟩, ⟨_, Try.underlying6, rfl, rfl, trivial, fun h => absurd rfl h⟩, ⟨rfl, rfl⟩, fun _ => ⟨Try.t6, _, (by kernel_rfl : Try.prog.info? 6 = some Try.t6), rfl, rfl⟩⟩

def T8 : TI := ⟨4, 24, true, [.int .i64 0, .int .i64 0, .bool false, .int .u8 0], [1, 1, 1, 1], .struct, 0, [(0, 1, false), (1, 1, false), (2, 1, false), (3, 1, false)], []⟩

theorem ok8 : TI.Ok Try.prog 8 T8 := ⟨⟨Try.t8, _, (by kernel_rfl : Try.prog.info? 8 = some Try.t8), rfl, rfl, rfl, rfl⟩, ⟨_, Try.underlying8, rfl, rfl, ⟨_, _, rfl, ⟨Try.t2, _, (by kernel_rfl : Try.prog.info? 2 = some Try.t2), by decide, Try.underlying2, rfl⟩, ⟨_, _, rfl, ⟨Try.t3, _, (by kernel_rfl : Try.prog.info? 3 = some Try.t3), by decide, Try.underlying3, rfl⟩, ⟨_, _, rfl, ⟨Try.t4, _, (by kernel_rfl : Try.prog.info? 4 = some Try.t4), by decide, Try.underlying4, rfl⟩, ⟨_, _, rfl, ⟨Try.t6, _, (by kernel_rfl : Try.prog.info? 6 = some Try.t6), by decide, Try.underlying6, rfl⟩, rfl⟩⟩⟩⟩, fun h => absurd rfl h⟩, ⟨rfl, rfl⟩, fun h => by cases h⟩

def T9 : TI := ⟨1, 16, false, [.string ⟨#[]⟩], [1], .str, 0, [], []⟩

theorem ok9 : TI.Ok Try.prog 9 T9 := ⟨⟨Try.t9, _, (by kernel_rfl : Try.prog.info? 9 = some Try.t9), rfl, rfl, rfl, rfl⟩, ⟨_, Try.underlying9, rfl, rfl, trivial, fun h => absurd rfl h⟩, ⟨rfl, rfl⟩, fun _ => ⟨Try.t9, _, (by kernel_rfl : Try.prog.info? 9 = some Try.t9), rfl, rfl⟩⟩

def T10 : TI := ⟨1, 16, false, [.string ⟨#[]⟩], [1], .str, 0, [], []⟩

theorem ok10 : TI.Ok Try.prog 10 T10 := ⟨⟨Try.t10, _, (by kernel_rfl : Try.prog.info? 10 = some Try.t10), rfl, rfl, rfl, rfl⟩, ⟨_, Try.underlying10, rfl, rfl, trivial, fun h => absurd rfl h⟩, ⟨rfl, rfl⟩, fun _ => ⟨Try.t10, _, (by kernel_rfl : Try.prog.info? 10 = some Try.t10), rfl, rfl⟩⟩

def T11 : TI := ⟨1, 16, false, [.string ⟨#[]⟩], [1], .str, 0, [], []⟩

theorem ok11 : TI.Ok Try.prog 11 T11 := ⟨⟨Try.t11, _, (by kernel_rfl : Try.prog.info? 11 = some Try.t11), rfl, rfl, rfl, rfl⟩, ⟨_, Try.underlying11, rfl, rfl, trivial, fun h => absurd rfl h⟩, ⟨rfl, rfl⟩, fun _ => ⟨Try.t11, _, (by kernel_rfl : Try.prog.info? 11 = some Try.t11), rfl, rfl⟩⟩

def T12 : TI := ⟨1, 8, false, [.int .u64 0], [1], (.int .u64), 0, [], []⟩

theorem ok12 : TI.Ok Try.prog 12 T12 := ⟨⟨Try.t12, _, (by kernel_rfl : Try.prog.info? 12 = some Try.t12), rfl, rfl, rfl, rfl⟩, ⟨_, Try.underlying12, rfl, rfl, trivial, fun h => absurd rfl h⟩, ⟨rfl, rfl⟩, fun _ => ⟨Try.t12, _, (by kernel_rfl : Try.prog.info? 12 = some Try.t12), rfl, rfl⟩⟩

def T14 : TI := ⟨2, 24, true, [.string ⟨#[]⟩, .int .u64 0], [1, 1], .struct, 0, [(0, 1, false), (1, 1, false)], []⟩

theorem ok14 : TI.Ok Try.prog 14 T14 := ⟨⟨Try.t14, _, (by kernel_rfl : Try.prog.info? 14 = some Try.t14), rfl, rfl, rfl, rfl⟩, ⟨_, Try.underlying14, rfl, rfl, ⟨_, _, rfl, ⟨Try.t9, _, (by kernel_rfl : Try.prog.info? 9 = some Try.t9), by decide, Try.underlying9, rfl⟩, ⟨_, _, rfl, ⟨Try.t12, _, (by kernel_rfl : Try.prog.info? 12 = some Try.t12), by decide, Try.underlying12, rfl⟩, rfl⟩⟩, fun h => absurd rfl h⟩, ⟨rfl, rfl⟩, fun h => by cases h⟩

def T19 : TI := ⟨1, 8, true, [.pointer none], [1], .struct, 0, [(0, 1, false)], []⟩

theorem ok19 : TI.Ok Try.prog 19 T19 := ⟨⟨Try.t19, _, (by kernel_rfl : Try.prog.info? 19 = some Try.t19), rfl, rfl, rfl, rfl⟩, ⟨_, Try.underlying19, rfl, rfl, ⟨_, _, rfl, ⟨Try.t17, _, (by kernel_rfl : Try.prog.info? 17 = some Try.t17), by decide, Try.underlying17, rfl⟩, rfl⟩, fun h => absurd rfl h⟩, ⟨rfl, rfl⟩, fun h => by cases h⟩

def T23 : TI := ⟨2, 16, true, [.int .i64 0, .int .i64 0], [1, 1], .struct, 0, [(0, 1, false), (1, 1, false)], [true, true]⟩

theorem ok23 : TI.Ok Try.prog 23 T23 := ⟨⟨Try.t23, _, (by kernel_rfl : Try.prog.info? 23 = some Try.t23), rfl, rfl, rfl, rfl⟩, ⟨_, Try.underlying23, rfl, rfl, ⟨_, _, rfl, ⟨Try.t3, _, (by kernel_rfl : Try.prog.info? 3 = some Try.t3), by decide, Try.underlying3, rfl⟩, ⟨_, _, rfl, ⟨Try.t3, _, (by kernel_rfl : Try.prog.info? 3 = some Try.t3), by decide, Try.underlying3, rfl⟩, rfl⟩⟩, fun _ => ⟨Try.stoodInHeld23, Try.eqGuardType23, ⟨by decide, rfl, .inl ⟨_, _, rfl, Try.underlying3, ⟨by decide, rfl, .inl ⟨_, _, rfl, Try.underlying3, rfl⟩⟩⟩⟩⟩⟩, ⟨rfl, rfl⟩, fun h => by cases h⟩

def T24 : TI := ⟨1, 8, false, [.int .u64 0], [1], (.int .u64), 0, [], []⟩

theorem ok24 : TI.Ok Try.prog 24 T24 := ⟨⟨Try.t24, _, (by kernel_rfl : Try.prog.info? 24 = some Try.t24), rfl, rfl, rfl, rfl⟩, ⟨_, Try.underlying24, rfl, rfl, trivial, fun h => absurd rfl h⟩, ⟨rfl, rfl⟩, fun _ => ⟨Try.t24, _, (by kernel_rfl : Try.prog.info? 24 = some Try.t24), rfl, rfl⟩⟩

def T29 : TI := ⟨1, 8, false, [.int .i64 0], [1], (.int .i64), 0, [], []⟩

theorem ok29 : TI.Ok Try.prog 29 T29 := ⟨⟨Try.t29, _, (by kernel_rfl : Try.prog.info? 29 = some Try.t29), rfl, rfl, rfl, rfl⟩, ⟨_, Try.underlying29, rfl, rfl, trivial, fun h => absurd rfl h⟩, ⟨rfl, rfl⟩, fun _ => ⟨Try.t29, _, (by kernel_rfl : Try.prog.info? 29 = some Try.t29), rfl, rfl⟩⟩

def T37 : TI := ⟨2, 16, true, [.int .i64 0, .int .i64 0], [1, 1], .struct, 0, [(0, 1, false), (1, 1, false)], [true, true]⟩

theorem ok37 : TI.Ok Try.prog 37 T37 := ⟨⟨Try.t37, _, (by kernel_rfl : Try.prog.info? 37 = some Try.t37), rfl, rfl, rfl, rfl⟩, ⟨_, Try.underlying37, rfl, rfl, ⟨_, _, rfl, ⟨Try.t3, _, (by kernel_rfl : Try.prog.info? 3 = some Try.t3), by decide, Try.underlying3, rfl⟩, ⟨_, _, rfl, ⟨Try.t3, _, (by kernel_rfl : Try.prog.info? 3 = some Try.t3), by decide, Try.underlying3, rfl⟩, rfl⟩⟩, fun _ => ⟨Try.stoodInHeld37, Try.eqGuardType37, ⟨by decide, rfl, .inl ⟨_, _, rfl, Try.underlying3, ⟨by decide, rfl, .inl ⟨_, _, rfl, Try.underlying3, rfl⟩⟩⟩⟩⟩⟩, ⟨rfl, rfl⟩, fun h => by cases h⟩

def T46 : TI := ⟨1, 24, false, [.slice none 0 0], [2], (.slice 57), 2, [], []⟩

theorem ok46 : TI.Ok Try.prog 46 T46 := ⟨⟨Try.t46, _, (by kernel_rfl : Try.prog.info? 46 = some Try.t46), rfl, rfl, rfl, rfl⟩, ⟨_, Try.underlying46, rfl, rfl, ⟨Try.t57, (by kernel_rfl : Try.prog.info? 57 = some Try.t57), rfl, by decide⟩, fun h => absurd rfl h⟩, ⟨rfl, rfl⟩, fun _ => ⟨Try.t46, _, (by kernel_rfl : Try.prog.info? 46 = some Try.t46), rfl, rfl⟩⟩

def T47 : TI := ⟨1, 24, false, [.slice none 0 0], [3], (.slice 61), 3, [], []⟩

theorem ok47 : TI.Ok Try.prog 47 T47 := ⟨⟨Try.t47, _, (by kernel_rfl : Try.prog.info? 47 = some Try.t47), rfl, rfl, rfl, rfl⟩, ⟨_, Try.underlying47, rfl, rfl, ⟨Try.t61, (by kernel_rfl : Try.prog.info? 61 = some Try.t61), rfl, by decide⟩, fun h => absurd rfl h⟩, ⟨rfl, rfl⟩, fun _ => ⟨Try.t47, _, (by kernel_rfl : Try.prog.info? 47 = some Try.t47), rfl, rfl⟩⟩

def T49 : TI := ⟨2, 48, true, [.slice none 0 0, .slice none 0 0], [2, 3], .struct, 0, [(0, 1, false), (1, 1, false)], []⟩

theorem ok49 : TI.Ok Try.prog 49 T49 := ⟨⟨Try.t49, _, (by kernel_rfl : Try.prog.info? 49 = some Try.t49), rfl, rfl, rfl, rfl⟩, ⟨_, Try.underlying49, rfl, rfl, ⟨_, _, rfl, ⟨Try.t46, _, (by kernel_rfl : Try.prog.info? 46 = some Try.t46), by decide, Try.underlying46, rfl⟩, ⟨_, _, rfl, ⟨Try.t47, _, (by kernel_rfl : Try.prog.info? 47 = some Try.t47), by decide, Try.underlying47, rfl⟩, rfl⟩⟩, fun h => absurd rfl h⟩, ⟨rfl, rfl⟩, fun h => by cases h⟩

def T51 : TI := ⟨1, 24, false, [.slice none 0 0], [2], (.slice 37), 2, [], []⟩

theorem ok51 : TI.Ok Try.prog 51 T51 := ⟨⟨Try.t51, _, (by kernel_rfl : Try.prog.info? 51 = some Try.t51), rfl, rfl, rfl, rfl⟩, ⟨_, Try.underlying51, rfl, rfl, ⟨Try.t37, (by kernel_rfl : Try.prog.info? 37 = some Try.t37), rfl, by decide⟩, fun h => absurd rfl h⟩, ⟨rfl, rfl⟩, fun _ => ⟨Try.t51, _, (by kernel_rfl : Try.prog.info? 51 = some Try.t51), rfl, rfl⟩⟩

def T57 : TI := ⟨2, 24, true, [.string ⟨#[]⟩, .int .i64 0], [1, 1], .struct, 0, [(0, 1, false), (1, 1, false)], [false, true]⟩

theorem ok57 : TI.Ok Try.prog 57 T57 := ⟨⟨Try.t57, _, (by kernel_rfl : Try.prog.info? 57 = some Try.t57), rfl, rfl, rfl, rfl⟩, ⟨_, Try.underlying57, rfl, rfl, ⟨_, _, rfl, ⟨Try.t9, _, (by kernel_rfl : Try.prog.info? 9 = some Try.t9), by decide, Try.underlying9, rfl⟩, ⟨_, _, rfl, ⟨Try.t3, _, (by kernel_rfl : Try.prog.info? 3 = some Try.t3), by decide, Try.underlying3, rfl⟩, rfl⟩⟩, fun _ => ⟨Try.stoodInHeld57, Try.eqGuardType57, ⟨by decide, rfl, .inr (.inl ⟨_, rfl, Try.underlying9, ⟨by decide, rfl, .inl ⟨_, _, rfl, Try.underlying3, rfl⟩⟩⟩)⟩⟩⟩, ⟨rfl, rfl⟩, fun h => by cases h⟩

def T59 : TI := ⟨1, 24, false, [.slice none 0 0], [4], (.slice 66), 4, [], []⟩

theorem ok59 : TI.Ok Try.prog 59 T59 := ⟨⟨Try.t59, _, (by kernel_rfl : Try.prog.info? 59 = some Try.t59), rfl, rfl, rfl, rfl⟩, ⟨_, Try.underlying59, rfl, rfl, ⟨Try.t66, (by kernel_rfl : Try.prog.info? 66 = some Try.t66), rfl, by decide⟩, fun h => absurd rfl h⟩, ⟨rfl, rfl⟩, fun _ => ⟨Try.t59, _, (by kernel_rfl : Try.prog.info? 59 = some Try.t59), rfl, rfl⟩⟩

def T61 : TI := ⟨3, 48, true, [.string ⟨#[]⟩, .slice none 0 0, .bool false], [1, 4, 1], .struct, 0, [(0, 1, false), (1, 1, false), (2, 1, false)], []⟩

theorem ok61 : TI.Ok Try.prog 61 T61 := ⟨⟨Try.t61, _, (by kernel_rfl : Try.prog.info? 61 = some Try.t61), rfl, rfl, rfl, rfl⟩, ⟨_, Try.underlying61, rfl, rfl, ⟨_, _, rfl, ⟨Try.t9, _, (by kernel_rfl : Try.prog.info? 9 = some Try.t9), by decide, Try.underlying9, rfl⟩, ⟨_, _, rfl, ⟨Try.t59, _, (by kernel_rfl : Try.prog.info? 59 = some Try.t59), by decide, Try.underlying59, rfl⟩, ⟨_, _, rfl, ⟨Try.t4, _, (by kernel_rfl : Try.prog.info? 4 = some Try.t4), by decide, Try.underlying4, rfl⟩, rfl⟩⟩⟩, fun h => absurd rfl h⟩, ⟨rfl, rfl⟩, fun h => by cases h⟩

def T66 : TI := ⟨4, 40, true, [.string ⟨#[]⟩, .int .i64 0, .int .i64 0, .int .i64 0], [1, 1, 1, 1], .struct, 0, [(0, 1, false), (1, 1, false), (2, 2, true)], [false, true, true, true]⟩

theorem ok66 : TI.Ok Try.prog 66 T66 := ⟨⟨Try.t66, _, (by kernel_rfl : Try.prog.info? 66 = some Try.t66), rfl, rfl, rfl, rfl⟩, ⟨_, Try.underlying66, rfl, rfl, ⟨_, _, rfl, ⟨Try.t9, _, (by kernel_rfl : Try.prog.info? 9 = some Try.t9), by decide, Try.underlying9, rfl⟩, ⟨_, _, rfl, ⟨Try.t3, _, (by kernel_rfl : Try.prog.info? 3 = some Try.t3), by decide, Try.underlying3, rfl⟩, ⟨_, _, rfl, ⟨Try.t37, _, (by kernel_rfl : Try.prog.info? 37 = some Try.t37), by decide, Try.underlying37, rfl⟩, rfl⟩⟩⟩, fun _ => ⟨Try.stoodInHeld66, Try.eqGuardType66, ⟨by decide, rfl, .inr (.inl ⟨_, rfl, Try.underlying9, ⟨by decide, rfl, .inl ⟨_, _, rfl, Try.underlying3, ⟨by decide, rfl, .inr (.inr ⟨_, Try.t37, _, Try.underlying37, Try.stoodInHeld37, (by kernel_rfl : Try.prog.info? 37 = some Try.t37), rfl, ⟨⟨by decide, rfl, _, Try.underlying3⟩, ⟨⟨by decide, rfl, _, Try.underlying3⟩, trivial⟩⟩, rfl, rfl⟩)⟩⟩⟩⟩)⟩⟩⟩, ⟨rfl, rfl⟩, fun h => by cases h⟩

def T68 : TI := ⟨1, 24, false, [.slice none 0 0], [1], (.slice 69), 1, [], []⟩

theorem ok68 : TI.Ok Try.prog 68 T68 := ⟨⟨Try.t68, _, (by kernel_rfl : Try.prog.info? 68 = some Try.t68), rfl, rfl, rfl, rfl⟩, ⟨_, Try.underlying68, rfl, rfl, ⟨Try.t69, (by kernel_rfl : Try.prog.info? 69 = some Try.t69), rfl, by decide⟩, fun h => absurd rfl h⟩, ⟨rfl, rfl⟩, fun _ => ⟨Try.t68, _, (by kernel_rfl : Try.prog.info? 68 = some Try.t68), rfl, rfl⟩⟩

def T69 : TI := ⟨1, 2, false, [.int .u16 0], [1], (.int .u16), 0, [], []⟩

theorem ok69 : TI.Ok Try.prog 69 T69 := ⟨⟨Try.t69, _, (by kernel_rfl : Try.prog.info? 69 = some Try.t69), rfl, rfl, rfl, rfl⟩, ⟨_, Try.underlying69, rfl, rfl, trivial, fun h => absurd rfl h⟩, ⟨rfl, rfl⟩, fun _ => ⟨Try.t69, _, (by kernel_rfl : Try.prog.info? 69 = some Try.t69), rfl, rfl⟩⟩

def T74 : TI := ⟨1, 24, false, [.slice none 0 0], [1], (.slice 9), 1, [], []⟩

theorem ok74 : TI.Ok Try.prog 74 T74 := ⟨⟨Try.t74, _, (by kernel_rfl : Try.prog.info? 74 = some Try.t74), rfl, rfl, rfl, rfl⟩, ⟨_, Try.underlying74, rfl, rfl, ⟨Try.t9, (by kernel_rfl : Try.prog.info? 9 = some Try.t9), rfl, by decide⟩, fun h => absurd rfl h⟩, ⟨rfl, rfl⟩, fun _ => ⟨Try.t74, _, (by kernel_rfl : Try.prog.info? 74 = some Try.t74), rfl, rfl⟩⟩

def T81 : TI := ⟨1, 24, false, [.slice none 0 0], [1], (.slice 3), 1, [], []⟩

theorem ok81 : TI.Ok Try.prog 81 T81 := ⟨⟨Try.t81, _, (by kernel_rfl : Try.prog.info? 81 = some Try.t81), rfl, rfl, rfl, rfl⟩, ⟨_, Try.underlying81, rfl, rfl, ⟨Try.t3, (by kernel_rfl : Try.prog.info? 3 = some Try.t3), rfl, by decide⟩, fun h => absurd rfl h⟩, ⟨rfl, rfl⟩, fun _ => ⟨Try.t81, _, (by kernel_rfl : Try.prog.info? 81 = some Try.t81), rfl, rfl⟩⟩

def T89 : TI := ⟨1, 24, false, [.slice none 0 0], [2], (.slice 49), 2, [], []⟩

theorem ok89 : TI.Ok Try.prog 89 T89 := ⟨⟨Try.t89, _, (by kernel_rfl : Try.prog.info? 89 = some Try.t89), rfl, rfl, rfl, rfl⟩, ⟨_, Try.underlying89, rfl, rfl, ⟨Try.t49, (by kernel_rfl : Try.prog.info? 49 = some Try.t49), rfl, by decide⟩, fun h => absurd rfl h⟩, ⟨rfl, rfl⟩, fun _ => ⟨Try.t89, _, (by kernel_rfl : Try.prog.info? 89 = some Try.t89), rfl, rfl⟩⟩

def T96 : TI := ⟨1, 24, false, [.slice none 0 0], [1], (.slice 87), 1, [], []⟩

theorem ok96 : TI.Ok Try.prog 96 T96 := ⟨⟨Try.t96, _, (by kernel_rfl : Try.prog.info? 96 = some Try.t96), rfl, rfl, rfl, rfl⟩, ⟨_, Try.underlying96, rfl, rfl, ⟨Try.t87, (by kernel_rfl : Try.prog.info? 87 = some Try.t87), rfl, by decide⟩, fun h => absurd rfl h⟩, ⟨rfl, rfl⟩, fun _ => ⟨Try.t96, _, (by kernel_rfl : Try.prog.info? 96 = some Try.t96), rfl, rfl⟩⟩

def T106 : TI := ⟨2, 16, true, [.int .u64 0, .int .u64 0], [1, 1], .struct, 0, [(0, 1, false), (1, 1, false)], [true, true]⟩

theorem ok106 : TI.Ok Try.prog 106 T106 := ⟨⟨Try.t106, _, (by kernel_rfl : Try.prog.info? 106 = some Try.t106), rfl, rfl, rfl, rfl⟩, ⟨_, Try.underlying106, rfl, rfl, ⟨_, _, rfl, ⟨Try.t24, _, (by kernel_rfl : Try.prog.info? 24 = some Try.t24), by decide, Try.underlying24, rfl⟩, ⟨_, _, rfl, ⟨Try.t24, _, (by kernel_rfl : Try.prog.info? 24 = some Try.t24), by decide, Try.underlying24, rfl⟩, rfl⟩⟩, fun _ => ⟨Try.stoodInHeld106, Try.eqGuardType106, ⟨by decide, rfl, .inl ⟨_, _, rfl, Try.underlying24, ⟨by decide, rfl, .inl ⟨_, _, rfl, Try.underlying24, rfl⟩⟩⟩⟩⟩⟩, ⟨rfl, rfl⟩, fun h => by cases h⟩

def T111 : TI := ⟨2, 16, true, [.int .u64 0, .int .u64 0], [1, 1], .struct, 0, [(0, 1, false), (1, 1, false)], [true, true]⟩

theorem ok111 : TI.Ok Try.prog 111 T111 := ⟨⟨Try.t111, _, (by kernel_rfl : Try.prog.info? 111 = some Try.t111), rfl, rfl, rfl, rfl⟩, ⟨_, Try.underlying111, rfl, rfl, ⟨_, _, rfl, ⟨Try.t24, _, (by kernel_rfl : Try.prog.info? 24 = some Try.t24), by decide, Try.underlying24, rfl⟩, ⟨_, _, rfl, ⟨Try.t24, _, (by kernel_rfl : Try.prog.info? 24 = some Try.t24), by decide, Try.underlying24, rfl⟩, rfl⟩⟩, fun _ => ⟨Try.stoodInHeld111, Try.eqGuardType111, ⟨by decide, rfl, .inl ⟨_, _, rfl, Try.underlying24, ⟨by decide, rfl, .inl ⟨_, _, rfl, Try.underlying24, rfl⟩⟩⟩⟩⟩⟩, ⟨rfl, rfl⟩, fun h => by cases h⟩

def T117 : TI := ⟨1, 24, false, [.slice none 0 0], [1], (.slice 81), 1, [], []⟩

theorem ok117 : TI.Ok Try.prog 117 T117 := ⟨⟨Try.t117, _, (by kernel_rfl : Try.prog.info? 117 = some Try.t117), rfl, rfl, rfl, rfl⟩, ⟨_, Try.underlying117, rfl, rfl, ⟨Try.t81, (by kernel_rfl : Try.prog.info? 81 = some Try.t81), rfl, by decide⟩, fun h => absurd rfl h⟩, ⟨rfl, rfl⟩, fun _ => ⟨Try.t117, _, (by kernel_rfl : Try.prog.info? 117 = some Try.t117), rfl, rfl⟩⟩

def T118 : TI := ⟨1, 24, false, [.slice none 0 0], [1], (.slice 81), 1, [], []⟩

theorem ok118 : TI.Ok Try.prog 118 T118 := ⟨⟨Try.t118, _, (by kernel_rfl : Try.prog.info? 118 = some Try.t118), rfl, rfl, rfl, rfl⟩, ⟨_, Try.underlying118, rfl, rfl, ⟨Try.t81, (by kernel_rfl : Try.prog.info? 81 = some Try.t81), rfl, by decide⟩, fun h => absurd rfl h⟩, ⟨rfl, rfl⟩, fun _ => ⟨Try.t118, _, (by kernel_rfl : Try.prog.info? 118 = some Try.t118), rfl, rfl⟩⟩

def T130 : TI := ⟨1, 24, false, [.slice none 0 0], [1], (.slice 51), 1, [], []⟩

theorem ok130 : TI.Ok Try.prog 130 T130 := ⟨⟨Try.t130, _, (by kernel_rfl : Try.prog.info? 130 = some Try.t130), rfl, rfl, rfl, rfl⟩, ⟨_, Try.underlying130, rfl, rfl, ⟨Try.t51, (by kernel_rfl : Try.prog.info? 51 = some Try.t51), rfl, by decide⟩, fun h => absurd rfl h⟩, ⟨rfl, rfl⟩, fun _ => ⟨Try.t130, _, (by kernel_rfl : Try.prog.info? 130 = some Try.t130), rfl, rfl⟩⟩

def T139 : TI := ⟨2, 48, true, [.slice none 0 0, .slice none 0 0], [1, 1], .struct, 0, [(0, 1, false), (1, 1, false)], []⟩

theorem ok139 : TI.Ok Try.prog 139 T139 := ⟨⟨Try.t139, _, (by kernel_rfl : Try.prog.info? 139 = some Try.t139), rfl, rfl, rfl, rfl⟩, ⟨_, Try.underlying139, rfl, rfl, ⟨_, _, rfl, ⟨Try.t81, _, (by kernel_rfl : Try.prog.info? 81 = some Try.t81), by decide, Try.underlying81, rfl⟩, ⟨_, _, rfl, ⟨Try.t118, _, (by kernel_rfl : Try.prog.info? 118 = some Try.t118), by decide, Try.underlying118, rfl⟩, rfl⟩⟩, fun h => absurd rfl h⟩, ⟨rfl, rfl⟩, fun h => by cases h⟩

def T145 : TI := ⟨1, 8, false, [.map none], [1], (.map 9 4), 0, [], []⟩

theorem ok145 : TI.Ok Try.prog 145 T145 := ⟨⟨Try.t145, _, (by kernel_rfl : Try.prog.info? 145 = some Try.t145), rfl, rfl, rfl, rfl⟩, ⟨_, Try.underlying145, rfl, rfl, trivial, fun h => absurd rfl h⟩, ⟨rfl, rfl⟩, fun _ => ⟨Try.t145, _, (by kernel_rfl : Try.prog.info? 145 = some Try.t145), rfl, rfl⟩⟩

def T158 : TI := ⟨1, 24, false, [.slice none 0 0], [3], (.slice 103), 3, [], []⟩

theorem ok158 : TI.Ok Try.prog 158 T158 := ⟨⟨Try.t158, _, (by kernel_rfl : Try.prog.info? 158 = some Try.t158), rfl, rfl, rfl, rfl⟩, ⟨_, Try.underlying158, rfl, rfl, ⟨Try.t103, (by kernel_rfl : Try.prog.info? 103 = some Try.t103), rfl, by decide⟩, fun h => absurd rfl h⟩, ⟨rfl, rfl⟩, fun _ => ⟨Try.t158, _, (by kernel_rfl : Try.prog.info? 158 = some Try.t158), rfl, rfl⟩⟩

def T161 : TI := ⟨1, 8, false, [.int .u64 0], [1], (.int .u64), 0, [], []⟩

theorem ok161 : TI.Ok Try.prog 161 T161 := ⟨⟨Try.t161, _, (by kernel_rfl : Try.prog.info? 161 = some Try.t161), rfl, rfl, rfl, rfl⟩, ⟨_, Try.underlying161, rfl, rfl, trivial, fun h => absurd rfl h⟩, ⟨rfl, rfl⟩, fun _ => ⟨Try.t161, _, (by kernel_rfl : Try.prog.info? 161 = some Try.t161), rfl, rfl⟩⟩

def T168 : TI := ⟨5, 88, true, [.slice none 0 0, .int .i64 0, .slice none 0 0, .slice none 0 0, .bool false], [1, 1, 1, 1, 1], .struct, 0, [(0, 1, false), (1, 1, false), (2, 1, false), (3, 1, false), (4, 1, false)], []⟩

theorem ok168 : TI.Ok Try.prog 168 T168 := ⟨⟨Try.t168, _, (by kernel_rfl : Try.prog.info? 168 = some Try.t168), rfl, rfl, rfl, rfl⟩, ⟨_, Try.underlying168, rfl, rfl, ⟨_, _, rfl, ⟨Try.t117, _, (by kernel_rfl : Try.prog.info? 117 = some Try.t117), by decide, Try.underlying117, rfl⟩, ⟨_, _, rfl, ⟨Try.t3, _, (by kernel_rfl : Try.prog.info? 3 = some Try.t3), by decide, Try.underlying3, rfl⟩, ⟨_, _, rfl, ⟨Try.t81, _, (by kernel_rfl : Try.prog.info? 81 = some Try.t81), by decide, Try.underlying81, rfl⟩, ⟨_, _, rfl, ⟨Try.t81, _, (by kernel_rfl : Try.prog.info? 81 = some Try.t81), by decide, Try.underlying81, rfl⟩, ⟨_, _, rfl, ⟨Try.t4, _, (by kernel_rfl : Try.prog.info? 4 = some Try.t4), by decide, Try.underlying4, rfl⟩, rfl⟩⟩⟩⟩⟩, fun h => absurd rfl h⟩, ⟨rfl, rfl⟩, fun h => by cases h⟩

def T215 : TI := ⟨1, 4, false, [.int .u32 0], [1], (.int .u32), 0, [], []⟩

theorem ok215 : TI.Ok Try.prog 215 T215 := ⟨⟨Try.t215, _, (by kernel_rfl : Try.prog.info? 215 = some Try.t215), rfl, rfl, rfl, rfl⟩, ⟨_, Try.underlying215, rfl, rfl, trivial, fun h => absurd rfl h⟩, ⟨rfl, rfl⟩, fun _ => ⟨Try.t215, _, (by kernel_rfl : Try.prog.info? 215 = some Try.t215), rfl, rfl⟩⟩

def T228 : TI := ⟨1, 1, false, [.int .u8 0], [1], (.int .u8), 0, [], []⟩

theorem ok228 : TI.Ok Try.prog 228 T228 := ⟨⟨Try.t228, _, (by kernel_rfl : Try.prog.info? 228 = some Try.t228), rfl, rfl, rfl, rfl⟩, ⟨_, Try.underlying228, rfl, rfl, trivial, fun h => absurd rfl h⟩, ⟨rfl, rfl⟩, fun _ => ⟨Try.t228, _, (by kernel_rfl : Try.prog.info? 228 = some Try.t228), rfl, rfl⟩⟩

def tab : Tab
  | 2 => some T2
  | 3 => some T3
  | 4 => some T4
  | 5 => some T5
  | 6 => some T6
  | 8 => some T8
  | 9 => some T9
  | 10 => some T10
  | 11 => some T11
  | 12 => some T12
  | 14 => some T14
  | 19 => some T19
  | 23 => some T23
  | 24 => some T24
  | 29 => some T29
  | 37 => some T37
  | 46 => some T46
  | 47 => some T47
  | 49 => some T49
  | 51 => some T51
  | 57 => some T57
  | 59 => some T59
  | 61 => some T61
  | 66 => some T66
  | 68 => some T68
  | 69 => some T69
  | 74 => some T74
  | 81 => some T81
  | 89 => some T89
  | 96 => some T96
  | 106 => some T106
  | 111 => some T111
  | 117 => some T117
  | 118 => some T118
  | 130 => some T130
  | 139 => some T139
  | 145 => some T145
  | 158 => some T158
  | 161 => some T161
  | 168 => some T168
  | 215 => some T215
  | 228 => some T228
  | _ => none

theorem tab_ok : Tab.Ok Try.prog tab := fun t i h => by
  unfold tab at h
  split at h <;> first
    | (cases h; done)
    | (cases h; exact ok2)
    | (cases h; exact ok3)
    | (cases h; exact ok4)
    | (cases h; exact ok5)
    | (cases h; exact ok6)
    | (cases h; exact ok8)
    | (cases h; exact ok9)
    | (cases h; exact ok10)
    | (cases h; exact ok11)
    | (cases h; exact ok12)
    | (cases h; exact ok14)
    | (cases h; exact ok19)
    | (cases h; exact ok23)
    | (cases h; exact ok24)
    | (cases h; exact ok29)
    | (cases h; exact ok37)
    | (cases h; exact ok46)
    | (cases h; exact ok47)
    | (cases h; exact ok49)
    | (cases h; exact ok51)
    | (cases h; exact ok57)
    | (cases h; exact ok59)
    | (cases h; exact ok61)
    | (cases h; exact ok66)
    | (cases h; exact ok68)
    | (cases h; exact ok69)
    | (cases h; exact ok74)
    | (cases h; exact ok81)
    | (cases h; exact ok89)
    | (cases h; exact ok96)
    | (cases h; exact ok106)
    | (cases h; exact ok111)
    | (cases h; exact ok117)
    | (cases h; exact ok118)
    | (cases h; exact ok130)
    | (cases h; exact ok139)
    | (cases h; exact ok145)
    | (cases h; exact ok158)
    | (cases h; exact ok161)
    | (cases h; exact ok168)
    | (cases h; exact ok215)
    | (cases h; exact ok228)

theorem bt : type_of% @T2.eq_1 ∧ type_of% @T3.eq_1 ∧ type_of% @T4.eq_1 ∧ type_of% @T5.eq_1 ∧ type_of% @T6.eq_1 ∧ type_of% @T8.eq_1 ∧ type_of% @T9.eq_1 ∧ type_of% @T10.eq_1 ∧ type_of% @T11.eq_1 ∧ type_of% @T12.eq_1 ∧ type_of% @T14.eq_1 ∧ type_of% @T19.eq_1 ∧ type_of% @T23.eq_1 ∧ type_of% @T24.eq_1 ∧ type_of% @T29.eq_1 ∧ type_of% @T37.eq_1 ∧ type_of% @T46.eq_1 ∧ type_of% @T47.eq_1 ∧ type_of% @T49.eq_1 ∧ type_of% @T51.eq_1 ∧ type_of% @T57.eq_1 ∧ type_of% @T59.eq_1 ∧ type_of% @T61.eq_1 ∧ type_of% @T66.eq_1 ∧ type_of% @T68.eq_1 ∧ type_of% @T69.eq_1 ∧ type_of% @T74.eq_1 ∧ type_of% @T81.eq_1 ∧ type_of% @T89.eq_1 ∧ type_of% @T96.eq_1 ∧ type_of% @T106.eq_1 ∧ type_of% @T111.eq_1 ∧ type_of% @T117.eq_1 ∧ type_of% @T118.eq_1 ∧ type_of% @T130.eq_1 ∧ type_of% @T139.eq_1 ∧ type_of% @T145.eq_1 ∧ type_of% @T158.eq_1 ∧ type_of% @T161.eq_1 ∧ type_of% @T168.eq_1 ∧ type_of% @T215.eq_1 ∧ type_of% @T228.eq_1 ∧ type_of% @tab.eq_1 ∧ type_of% @tab.eq_2 ∧ type_of% @tab.eq_3 ∧ type_of% @tab.eq_4 ∧ type_of% @tab.eq_5 ∧ type_of% @tab.eq_6 ∧ type_of% @tab.eq_7 ∧ type_of% @tab.eq_8 ∧ type_of% @tab.eq_9 ∧ type_of% @tab.eq_10 ∧ type_of% @tab.eq_11 ∧ type_of% @tab.eq_12 ∧ type_of% @tab.eq_13 ∧ type_of% @tab.eq_14 ∧ type_of% @tab.eq_15 ∧ type_of% @tab.eq_16 ∧ type_of% @tab.eq_17 ∧ type_of% @tab.eq_18 ∧ type_of% @tab.eq_19 ∧ type_of% @tab.eq_20 ∧ type_of% @tab.eq_21 ∧ type_of% @tab.eq_22 ∧ type_of% @tab.eq_23 ∧ type_of% @tab.eq_24 ∧ type_of% @tab.eq_25 ∧ type_of% @tab.eq_26 ∧ type_of% @tab.eq_27 ∧ type_of% @tab.eq_28 ∧ type_of% @tab.eq_29 ∧ type_of% @tab.eq_30 ∧ type_of% @tab.eq_31 ∧ type_of% @tab.eq_32 ∧ type_of% @tab.eq_33 ∧ type_of% @tab.eq_34 ∧ type_of% @tab.eq_35 ∧ type_of% @tab.eq_36 ∧ type_of% @tab.eq_37 ∧ type_of% @tab.eq_38 ∧ type_of% @tab.eq_39 ∧ type_of% @tab.eq_40 ∧ type_of% @tab.eq_41 ∧ type_of% @tab.eq_42 := ⟨@T2.eq_1, @T3.eq_1, @T4.eq_1, @T5.eq_1, @T6.eq_1, @T8.eq_1, @T9.eq_1, @T10.eq_1, @T11.eq_1, @T12.eq_1, @T14.eq_1, @T19.eq_1, @T23.eq_1, @T24.eq_1, @T29.eq_1, @T37.eq_1, @T46.eq_1, @T47.eq_1, @T49.eq_1, @T51.eq_1, @T57.eq_1, @T59.eq_1, @T61.eq_1, @T66.eq_1, @T68.eq_1, @T69.eq_1, @T74.eq_1, @T81.eq_1, @T89.eq_1, @T96.eq_1, @T106.eq_1, @T111.eq_1, @T117.eq_1, @T118.eq_1, @T130.eq_1, @T139.eq_1, @T145.eq_1, @T158.eq_1, @T161.eq_1, @T168.eq_1, @T215.eq_1, @T228.eq_1, @tab.eq_1, @tab.eq_2, @tab.eq_3, @tab.eq_4, @tab.eq_5, @tab.eq_6, @tab.eq_7, @tab.eq_8, @tab.eq_9, @tab.eq_10, @tab.eq_11, @tab.eq_12, @tab.eq_13, @tab.eq_14, @tab.eq_15, @tab.eq_16, @tab.eq_17, @tab.eq_18, @tab.eq_19, @tab.eq_20, @tab.eq_21, @tab.eq_22, @tab.eq_23, @tab.eq_24, @tab.eq_25, @tab.eq_26, @tab.eq_27, @tab.eq_28, @tab.eq_29, @tab.eq_30, @tab.eq_31, @tab.eq_32, @tab.eq_33, @tab.eq_34, @tab.eq_35, @tab.eq_36, @tab.eq_37, @tab.eq_38, @tab.eq_39, @tab.eq_40, @tab.eq_41, @tab.eq_42⟩

theorem follows_mixed : Try.prog.follows .mixedOrders = true := by kernel_rfl

end Go.Proofs.Ytjjpjgnoanfaoaa.T
