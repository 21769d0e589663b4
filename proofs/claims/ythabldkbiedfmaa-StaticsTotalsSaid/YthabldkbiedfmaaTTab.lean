/- The table of this seat's types: sizes, kinds, places of fields, each held against the program. -/
import Derived.Test.YthabldkbiedfmaaTO
import Derived.Test.YthabldkbiedfmaaProg
import Derived.KernelRfl
namespace Go.Proofs.Ythabldkbiedfmaa.T
open Go Go.RowKit

def T2 : TI := ⟨1, 8, false, [.int .i64 0], [1], (.int .i64), 0, [], false⟩

theorem ok2 : TI.Ok Try.prog 2 T2 := ⟨⟨Try.t2, _, (by kernel_rfl : Try.prog.info? 2 = some Try.t2), rfl, rfl, rfl, rfl⟩, ⟨_, Try.underlying2, rfl, rfl, trivial, fun h => by cases h⟩, ⟨rfl, rfl⟩, fun _ => ⟨Try.t2, _, (by kernel_rfl : Try.prog.info? 2 = some Try.t2), rfl, rfl⟩⟩

def T3 : TI := ⟨1, 8, false, [.int .i64 0], [1], (.int .i64), 0, [], false⟩

theorem ok3 : TI.Ok Try.prog 3 T3 := ⟨⟨Try.t3, _, (by kernel_rfl : Try.prog.info? 3 = some Try.t3), rfl, rfl, rfl, rfl⟩, ⟨_, Try.underlying3, rfl, rfl, trivial, fun h => by cases h⟩, ⟨rfl, rfl⟩, fun _ => ⟨Try.t3, _, (by kernel_rfl : Try.prog.info? 3 = some Try.t3), rfl, rfl⟩⟩

def T4 : TI := ⟨1, 1, false, [.bool false], [1], .bool, 0, [], false⟩

theorem ok4 : TI.Ok Try.prog 4 T4 := ⟨⟨Try.t4, _, (by kernel_rfl : Try.prog.info? 4 = some Try.t4), rfl, rfl, rfl, rfl⟩, ⟨_, Try.underlying4, rfl, rfl, trivial, fun h => by cases h⟩, ⟨rfl, rfl⟩, fun _ => ⟨Try.t4, _, (by kernel_rfl : Try.prog.info? 4 = some Try.t4), rfl, rfl⟩⟩

def T5 : TI := ⟨1, 1, false, [.int .u8 0], [1], (.int .u8), 0, [], false⟩

theorem ok5 : TI.Ok Try.prog 5 T5 := ⟨⟨Try.t5, _, (by kernel_rfl : Try.prog.info? 5 = some Try.t5), rfl, rfl, rfl, rfl⟩, ⟨_, Try.underlying5, rfl, rfl, trivial, fun h => by cases h⟩, ⟨rfl, rfl⟩, fun _ => ⟨Try.t5, _, (by kernel_rfl : Try.prog.info? 5 = some Try.t5), rfl, rfl⟩⟩

def T9 : TI := ⟨1, 16, false, [.string ⟨#[]⟩], [1], .str, 0, [], false⟩

theorem ok9 : TI.Ok Try.prog 9 T9 := ⟨⟨Try.t9, _, (by kernel_rfl : Try.prog.info? 9 = some Try.t9), rfl, rfl, rfl, rfl⟩, ⟨_, Try.underlying9, rfl, rfl, trivial, fun h => by cases h⟩, ⟨rfl, rfl⟩, fun _ => ⟨Try.t9, _, (by kernel_rfl : Try.prog.info? 9 = some Try.t9), rfl, rfl⟩⟩

def T22 : TI := ⟨1, 24, false, [.slice none 0 0], [2], (.slice 45), 2, [], false⟩

theorem ok22 : TI.Ok Try.prog 22 T22 := ⟨⟨Try.t22, _, (by kernel_rfl : Try.prog.info? 22 = some Try.t22), rfl, rfl, rfl, rfl⟩, ⟨_, Try.underlying22, rfl, rfl, ⟨Try.t45, (by kernel_rfl : Try.prog.info? 45 = some Try.t45), rfl, by decide⟩, fun h => by cases h⟩, ⟨rfl, rfl⟩, fun _ => ⟨Try.t22, _, (by kernel_rfl : Try.prog.info? 22 = some Try.t22), rfl, rfl⟩⟩

def T23 : TI := ⟨1, 24, false, [.slice none 0 0], [3], (.slice 49), 3, [], false⟩

theorem ok23 : TI.Ok Try.prog 23 T23 := ⟨⟨Try.t23, _, (by kernel_rfl : Try.prog.info? 23 = some Try.t23), rfl, rfl, rfl, rfl⟩, ⟨_, Try.underlying23, rfl, rfl, ⟨Try.t49, (by kernel_rfl : Try.prog.info? 49 = some Try.t49), rfl, by decide⟩, fun h => by cases h⟩, ⟨rfl, rfl⟩, fun _ => ⟨Try.t23, _, (by kernel_rfl : Try.prog.info? 23 = some Try.t23), rfl, rfl⟩⟩

def T25 : TI := ⟨2, 48, true, [.slice none 0 0, .slice none 0 0], [2, 3], .struct, 0, [(0, 1, false), (1, 1, false)], false⟩

theorem ok25 : TI.Ok Try.prog 25 T25 := ⟨⟨Try.t25, _, (by kernel_rfl : Try.prog.info? 25 = some Try.t25), rfl, rfl, rfl, rfl⟩, ⟨_, Try.underlying25, rfl, rfl, ⟨_, _, rfl, ⟨Try.t22, _, (by kernel_rfl : Try.prog.info? 22 = some Try.t22), by decide, Try.underlying22, rfl⟩, ⟨_, _, rfl, ⟨Try.t23, _, (by kernel_rfl : Try.prog.info? 23 = some Try.t23), by decide, Try.underlying23, rfl⟩, rfl⟩⟩, fun h => by cases h⟩, ⟨rfl, rfl⟩, fun h => by cases h⟩

def T28 : TI := ⟨1, 24, false, [.slice none 0 0], [2], (.slice 33), 2, [], false⟩

theorem ok28 : TI.Ok Try.prog 28 T28 := ⟨⟨Try.t28, _, (by kernel_rfl : Try.prog.info? 28 = some Try.t28), rfl, rfl, rfl, rfl⟩, ⟨_, Try.underlying28, rfl, rfl, ⟨Try.t33, (by kernel_rfl : Try.prog.info? 33 = some Try.t33), rfl, by decide⟩, fun h => by cases h⟩, ⟨rfl, rfl⟩, fun _ => ⟨Try.t28, _, (by kernel_rfl : Try.prog.info? 28 = some Try.t28), rfl, rfl⟩⟩

def T29 : TI := ⟨1, 8, false, [.int .i64 0], [1], (.int .i64), 0, [], false⟩

theorem ok29 : TI.Ok Try.prog 29 T29 := ⟨⟨Try.t29, _, (by kernel_rfl : Try.prog.info? 29 = some Try.t29), rfl, rfl, rfl, rfl⟩, ⟨_, Try.underlying29, rfl, rfl, trivial, fun h => by cases h⟩, ⟨rfl, rfl⟩, fun _ => ⟨Try.t29, _, (by kernel_rfl : Try.prog.info? 29 = some Try.t29), rfl, rfl⟩⟩

def T33 : TI := ⟨2, 16, true, [.int .i64 0, .int .i64 0], [1, 1], .struct, 0, [(0, 1, false), (1, 1, false)], true⟩

theorem ok33 : TI.Ok Try.prog 33 T33 := ⟨⟨Try.t33, _, (by kernel_rfl : Try.prog.info? 33 = some Try.t33), rfl, rfl, rfl, rfl⟩, ⟨_, Try.underlying33, rfl, rfl, ⟨_, _, rfl, ⟨Try.t3, _, (by kernel_rfl : Try.prog.info? 3 = some Try.t3), by decide, Try.underlying3, rfl⟩, ⟨_, _, rfl, ⟨Try.t3, _, (by kernel_rfl : Try.prog.info? 3 = some Try.t3), by decide, Try.underlying3, rfl⟩, rfl⟩⟩, fun _ => ⟨Try.stoodInHeld33, Try.eqGuardType33, rfl, ⟨⟨by decide, rfl, _, Try.underlying3⟩, ⟨⟨by decide, rfl, _, Try.underlying3⟩, trivial⟩⟩⟩⟩, ⟨rfl, rfl⟩, fun h => by cases h⟩

def T45 : TI := ⟨2, 24, true, [.string ⟨#[]⟩, .int .i64 0], [1, 1], .struct, 0, [(0, 1, false), (1, 1, false)], false⟩

theorem ok45 : TI.Ok Try.prog 45 T45 := ⟨⟨Try.t45, _, (by kernel_rfl : Try.prog.info? 45 = some Try.t45), rfl, rfl, rfl, rfl⟩, ⟨_, Try.underlying45, rfl, rfl, ⟨_, _, rfl, ⟨Try.t9, _, (by kernel_rfl : Try.prog.info? 9 = some Try.t9), by decide, Try.underlying9, rfl⟩, ⟨_, _, rfl, ⟨Try.t3, _, (by kernel_rfl : Try.prog.info? 3 = some Try.t3), by decide, Try.underlying3, rfl⟩, rfl⟩⟩, fun h => by cases h⟩, ⟨rfl, rfl⟩, fun h => by cases h⟩

def T47 : TI := ⟨1, 24, false, [.slice none 0 0], [4], (.slice 53), 4, [], false⟩

theorem ok47 : TI.Ok Try.prog 47 T47 := ⟨⟨Try.t47, _, (by kernel_rfl : Try.prog.info? 47 = some Try.t47), rfl, rfl, rfl, rfl⟩, ⟨_, Try.underlying47, rfl, rfl, ⟨Try.t53, (by kernel_rfl : Try.prog.info? 53 = some Try.t53), rfl, by decide⟩, fun h => by cases h⟩, ⟨rfl, rfl⟩, fun _ => ⟨Try.t47, _, (by kernel_rfl : Try.prog.info? 47 = some Try.t47), rfl, rfl⟩⟩

def T49 : TI := ⟨3, 48, true, [.string ⟨#[]⟩, .slice none 0 0, .bool false], [1, 4, 1], .struct, 0, [(0, 1, false), (1, 1, false), (2, 1, false)], false⟩

theorem ok49 : TI.Ok Try.prog 49 T49 := ⟨⟨Try.t49, _, (by kernel_rfl : Try.prog.info? 49 = some Try.t49), rfl, rfl, rfl, rfl⟩, ⟨_, Try.underlying49, rfl, rfl, ⟨_, _, rfl, ⟨Try.t9, _, (by kernel_rfl : Try.prog.info? 9 = some Try.t9), by decide, Try.underlying9, rfl⟩, ⟨_, _, rfl, ⟨Try.t47, _, (by kernel_rfl : Try.prog.info? 47 = some Try.t47), by decide, Try.underlying47, rfl⟩, ⟨_, _, rfl, ⟨Try.t4, _, (by kernel_rfl : Try.prog.info? 4 = some Try.t4), by decide, Try.underlying4, rfl⟩, rfl⟩⟩⟩, fun h => by cases h⟩, ⟨rfl, rfl⟩, fun h => by cases h⟩

def T53 : TI := ⟨4, 40, true, [.string ⟨#[]⟩, .int .i64 0, .int .i64 0, .int .i64 0], [1, 1, 1, 1], .struct, 0, [(0, 1, false), (1, 1, false), (2, 2, true)], false⟩

theorem ok53 : TI.Ok Try.prog 53 T53 := ⟨⟨Try.t53, _, (by kernel_rfl : Try.prog.info? 53 = some Try.t53), rfl, rfl, rfl, rfl⟩, ⟨_, Try.underlying53, rfl, rfl, ⟨_, _, rfl, ⟨Try.t9, _, (by kernel_rfl : Try.prog.info? 9 = some Try.t9), by decide, Try.underlying9, rfl⟩, ⟨_, _, rfl, ⟨Try.t3, _, (by kernel_rfl : Try.prog.info? 3 = some Try.t3), by decide, Try.underlying3, rfl⟩, ⟨_, _, rfl, ⟨Try.t33, _, (by kernel_rfl : Try.prog.info? 33 = some Try.t33), by decide, Try.underlying33, rfl⟩, rfl⟩⟩⟩, fun h => by cases h⟩, ⟨rfl, rfl⟩, fun h => by cases h⟩

def T55 : TI := ⟨1, 24, false, [.slice none 0 0], [1], (.slice 56), 1, [], false⟩

theorem ok55 : TI.Ok Try.prog 55 T55 := ⟨⟨Try.t55, _, (by kernel_rfl : Try.prog.info? 55 = some Try.t55), rfl, rfl, rfl, rfl⟩, ⟨_, Try.underlying55, rfl, rfl, ⟨Try.t56, (by kernel_rfl : Try.prog.info? 56 = some Try.t56), rfl, by decide⟩, fun h => by cases h⟩, ⟨rfl, rfl⟩, fun _ => ⟨Try.t55, _, (by kernel_rfl : Try.prog.info? 55 = some Try.t55), rfl, rfl⟩⟩

def T56 : TI := ⟨1, 2, false, [.int .u16 0], [1], (.int .u16), 0, [], false⟩

theorem ok56 : TI.Ok Try.prog 56 T56 := ⟨⟨Try.t56, _, (by kernel_rfl : Try.prog.info? 56 = some Try.t56), rfl, rfl, rfl, rfl⟩, ⟨_, Try.underlying56, rfl, rfl, trivial, fun h => by cases h⟩, ⟨rfl, rfl⟩, fun _ => ⟨Try.t56, _, (by kernel_rfl : Try.prog.info? 56 = some Try.t56), rfl, rfl⟩⟩

def T72 : TI := ⟨1, 24, false, [.slice none 0 0], [1], (.slice 3), 1, [], false⟩

theorem ok72 : TI.Ok Try.prog 72 T72 := ⟨⟨Try.t72, _, (by kernel_rfl : Try.prog.info? 72 = some Try.t72), rfl, rfl, rfl, rfl⟩, ⟨_, Try.underlying72, rfl, rfl, ⟨Try.t3, (by kernel_rfl : Try.prog.info? 3 = some Try.t3), rfl, by decide⟩, fun h => by cases h⟩, ⟨rfl, rfl⟩, fun _ => ⟨Try.t72, _, (by kernel_rfl : Try.prog.info? 72 = some Try.t72), rfl, rfl⟩⟩

def T79 : TI := ⟨1, 1, false, [.int .i8 0], [1], (.int .i8), 0, [], false⟩

theorem ok79 : TI.Ok Try.prog 79 T79 := ⟨⟨Try.t79, _, (by kernel_rfl : Try.prog.info? 79 = some Try.t79), rfl, rfl, rfl, rfl⟩, ⟨_, Try.underlying79, rfl, rfl, trivial, fun h => by cases h⟩, ⟨rfl, rfl⟩, fun _ => ⟨Try.t79, _, (by kernel_rfl : Try.prog.info? 79 = some Try.t79), rfl, rfl⟩⟩

def T89 : TI := ⟨1, 24, false, [.slice none 0 0], [1], (.slice 28), 1, [], false⟩

theorem ok89 : TI.Ok Try.prog 89 T89 := ⟨⟨Try.t89, _, (by kernel_rfl : Try.prog.info? 89 = some Try.t89), rfl, rfl, rfl, rfl⟩, ⟨_, Try.underlying89, rfl, rfl, ⟨Try.t28, (by kernel_rfl : Try.prog.info? 28 = some Try.t28), rfl, by decide⟩, fun h => by cases h⟩, ⟨rfl, rfl⟩, fun _ => ⟨Try.t89, _, (by kernel_rfl : Try.prog.info? 89 = some Try.t89), rfl, rfl⟩⟩

def T95 : TI := ⟨1, 24, false, [.slice none 0 0], [1], (.slice 72), 1, [], false⟩

theorem ok95 : TI.Ok Try.prog 95 T95 := ⟨⟨Try.t95, _, (by kernel_rfl : Try.prog.info? 95 = some Try.t95), rfl, rfl, rfl, rfl⟩, ⟨_, Try.underlying95, rfl, rfl, ⟨Try.t72, (by kernel_rfl : Try.prog.info? 72 = some Try.t72), rfl, by decide⟩, fun h => by cases h⟩, ⟨rfl, rfl⟩, fun _ => ⟨Try.t95, _, (by kernel_rfl : Try.prog.info? 95 = some Try.t95), rfl, rfl⟩⟩

def T96 : TI := ⟨1, 24, false, [.slice none 0 0], [1], (.slice 72), 1, [], false⟩

theorem ok96 : TI.Ok Try.prog 96 T96 := ⟨⟨Try.t96, _, (by kernel_rfl : Try.prog.info? 96 = some Try.t96), rfl, rfl, rfl, rfl⟩, ⟨_, Try.underlying96, rfl, rfl, ⟨Try.t72, (by kernel_rfl : Try.prog.info? 72 = some Try.t72), rfl, by decide⟩, fun h => by cases h⟩, ⟨rfl, rfl⟩, fun _ => ⟨Try.t96, _, (by kernel_rfl : Try.prog.info? 96 = some Try.t96), rfl, rfl⟩⟩

def T101 : TI := ⟨1, 24, false, [.slice none 0 0], [1], (.slice 9), 1, [], false⟩

theorem ok101 : TI.Ok Try.prog 101 T101 := ⟨⟨Try.t101, _, (by kernel_rfl : Try.prog.info? 101 = some Try.t101), rfl, rfl, rfl, rfl⟩, ⟨_, Try.underlying101, rfl, rfl, ⟨Try.t9, (by kernel_rfl : Try.prog.info? 9 = some Try.t9), rfl, by decide⟩, fun h => by cases h⟩, ⟨rfl, rfl⟩, fun _ => ⟨Try.t101, _, (by kernel_rfl : Try.prog.info? 101 = some Try.t101), rfl, rfl⟩⟩

def T123 : TI := ⟨1, 24, false, [.slice none 0 0], [2], (.slice 25), 2, [], false⟩

theorem ok123 : TI.Ok Try.prog 123 T123 := ⟨⟨Try.t123, _, (by kernel_rfl : Try.prog.info? 123 = some Try.t123), rfl, rfl, rfl, rfl⟩, ⟨_, Try.underlying123, rfl, rfl, ⟨Try.t25, (by kernel_rfl : Try.prog.info? 25 = some Try.t25), rfl, by decide⟩, fun h => by cases h⟩, ⟨rfl, rfl⟩, fun _ => ⟨Try.t123, _, (by kernel_rfl : Try.prog.info? 123 = some Try.t123), rfl, rfl⟩⟩

def T129 : TI := ⟨1, 24, false, [.slice none 0 0], [1], (.slice 35), 1, [], false⟩

theorem ok129 : TI.Ok Try.prog 129 T129 := ⟨⟨Try.t129, _, (by kernel_rfl : Try.prog.info? 129 = some Try.t129), rfl, rfl, rfl, rfl⟩, ⟨_, Try.underlying129, rfl, rfl, ⟨Try.t35, (by kernel_rfl : Try.prog.info? 35 = some Try.t35), rfl, by decide⟩, fun h => by cases h⟩, ⟨rfl, rfl⟩, fun _ => ⟨Try.t129, _, (by kernel_rfl : Try.prog.info? 129 = some Try.t129), rfl, rfl⟩⟩

def T140 : TI := ⟨1, 8, false, [.int .u64 0], [1], (.int .u64), 0, [], false⟩

theorem ok140 : TI.Ok Try.prog 140 T140 := ⟨⟨Try.t140, _, (by kernel_rfl : Try.prog.info? 140 = some Try.t140), rfl, rfl, rfl, rfl⟩, ⟨_, Try.underlying140, rfl, rfl, trivial, fun h => by cases h⟩, ⟨rfl, rfl⟩, fun _ => ⟨Try.t140, _, (by kernel_rfl : Try.prog.info? 140 = some Try.t140), rfl, rfl⟩⟩

def T143 : TI := ⟨2, 16, true, [.int .u64 0, .int .u64 0], [1, 1], .struct, 0, [(0, 1, false), (1, 1, false)], true⟩

theorem ok143 : TI.Ok Try.prog 143 T143 := ⟨⟨Try.t143, _, (by kernel_rfl : Try.prog.info? 143 = some Try.t143), rfl, rfl, rfl, rfl⟩, ⟨_, Try.underlying143, rfl, rfl, ⟨_, _, rfl, ⟨Try.t140, _, (by kernel_rfl : Try.prog.info? 140 = some Try.t140), by decide, Try.underlying140, rfl⟩, ⟨_, _, rfl, ⟨Try.t140, _, (by kernel_rfl : Try.prog.info? 140 = some Try.t140), by decide, Try.underlying140, rfl⟩, rfl⟩⟩, fun _ => ⟨Try.stoodInHeld143, Try.eqGuardType143, rfl, ⟨⟨by decide, rfl, _, Try.underlying140⟩, ⟨⟨by decide, rfl, _, Try.underlying140⟩, trivial⟩⟩⟩⟩, ⟨rfl, rfl⟩, fun h => by cases h⟩

def T169 : TI := ⟨2, 48, true, [.slice none 0 0, .slice none 0 0], [1, 1], .struct, 0, [(0, 1, false), (1, 1, false)], false⟩

theorem ok169 : TI.Ok Try.prog 169 T169 := ⟨⟨Try.t169, _, (by kernel_rfl : Try.prog.info? 169 = some Try.t169), rfl, rfl, rfl, rfl⟩, ⟨_, Try.underlying169, rfl, rfl, ⟨_, _, rfl, ⟨Try.t72, _, (by kernel_rfl : Try.prog.info? 72 = some Try.t72), by decide, Try.underlying72, rfl⟩, ⟨_, _, rfl, ⟨Try.t96, _, (by kernel_rfl : Try.prog.info? 96 = some Try.t96), by decide, Try.underlying96, rfl⟩, rfl⟩⟩, fun h => by cases h⟩, ⟨rfl, rfl⟩, fun h => by cases h⟩

def T174 : TI := ⟨5, 88, true, [.slice none 0 0, .int .i64 0, .slice none 0 0, .slice none 0 0, .bool false], [1, 1, 1, 1, 1], .struct, 0, [(0, 1, false), (1, 1, false), (2, 1, false), (3, 1, false), (4, 1, false)], false⟩

theorem ok174 : TI.Ok Try.prog 174 T174 := ⟨⟨Try.t174, _, (by kernel_rfl : Try.prog.info? 174 = some Try.t174), rfl, rfl, rfl, rfl⟩, ⟨_, Try.underlying174, rfl, rfl, ⟨_, _, rfl, ⟨Try.t95, _, (by kernel_rfl : Try.prog.info? 95 = some Try.t95), by decide, Try.underlying95, rfl⟩, ⟨_, _, rfl, ⟨Try.t3, _, (by kernel_rfl : Try.prog.info? 3 = some Try.t3), by decide, Try.underlying3, rfl⟩, ⟨_, _, rfl, ⟨Try.t72, _, (by kernel_rfl : Try.prog.info? 72 = some Try.t72), by decide, Try.underlying72, rfl⟩, ⟨_, _, rfl, ⟨Try.t72, _, (by kernel_rfl : Try.prog.info? 72 = some Try.t72), by decide, Try.underlying72, rfl⟩, ⟨_, _, rfl, ⟨Try.t4, _, (by kernel_rfl : Try.prog.info? 4 = some Try.t4), by decide, Try.underlying4, rfl⟩, rfl⟩⟩⟩⟩⟩, fun h => by cases h⟩, ⟨rfl, rfl⟩, fun h => by cases h⟩

def T188 : TI := ⟨1, 8, false, [.map none], [1], (.map 9 4), 0, [], false⟩

theorem ok188 : TI.Ok Try.prog 188 T188 := ⟨⟨Try.t188, _, (by kernel_rfl : Try.prog.info? 188 = some Try.t188), rfl, rfl, rfl, rfl⟩, ⟨_, Try.underlying188, rfl, rfl, trivial, fun h => by cases h⟩, ⟨rfl, rfl⟩, fun _ => ⟨Try.t188, _, (by kernel_rfl : Try.prog.info? 188 = some Try.t188), rfl, rfl⟩⟩

def T192 : TI := ⟨2, 16, true, [.int .u64 0, .int .u64 0], [1, 1], .struct, 0, [(0, 1, false), (1, 1, false)], true⟩

theorem ok192 : TI.Ok Try.prog 192 T192 := ⟨⟨Try.t192, _, (by kernel_rfl : Try.prog.info? 192 = some Try.t192), rfl, rfl, rfl, rfl⟩, ⟨_, Try.underlying192, rfl, rfl, ⟨_, _, rfl, ⟨Try.t140, _, (by kernel_rfl : Try.prog.info? 140 = some Try.t140), by decide, Try.underlying140, rfl⟩, ⟨_, _, rfl, ⟨Try.t140, _, (by kernel_rfl : Try.prog.info? 140 = some Try.t140), by decide, Try.underlying140, rfl⟩, rfl⟩⟩, fun _ => ⟨Try.stoodInHeld192, Try.eqGuardType192, rfl, ⟨⟨by decide, rfl, _, Try.underlying140⟩, ⟨⟨by decide, rfl, _, Try.underlying140⟩, trivial⟩⟩⟩⟩, ⟨rfl, rfl⟩, fun h => by cases h⟩

def T201 : TI := ⟨4, 64, true, [.slice none 0 0, .slice none 0 0, .int .i64 0, .bool false], [1, 1, 1, 1], .struct, 0, [(0, 1, false), (1, 1, false), (2, 1, false), (3, 1, false)], false⟩

theorem ok201 : TI.Ok Try.prog 201 T201 := ⟨⟨Try.t201, _, (by kernel_rfl : Try.prog.info? 201 = some Try.t201), rfl, rfl, rfl, rfl⟩, ⟨_, Try.underlying201, rfl, rfl, ⟨_, _, rfl, ⟨Try.t96, _, (by kernel_rfl : Try.prog.info? 96 = some Try.t96), by decide, Try.underlying96, rfl⟩, ⟨_, _, rfl, ⟨Try.t72, _, (by kernel_rfl : Try.prog.info? 72 = some Try.t72), by decide, Try.underlying72, rfl⟩, ⟨_, _, rfl, ⟨Try.t3, _, (by kernel_rfl : Try.prog.info? 3 = some Try.t3), by decide, Try.underlying3, rfl⟩, ⟨_, _, rfl, ⟨Try.t4, _, (by kernel_rfl : Try.prog.info? 4 = some Try.t4), by decide, Try.underlying4, rfl⟩, rfl⟩⟩⟩⟩, fun h => by cases h⟩, ⟨rfl, rfl⟩, fun h => by cases h⟩

def T222 : TI := ⟨1, 8, false, [.int .u64 0], [1], (.int .u64), 0, [], false⟩

theorem ok222 : TI.Ok Try.prog 222 T222 := ⟨⟨Try.t222, _, (by kernel_rfl : Try.prog.info? 222 = some Try.t222), rfl, rfl, rfl, rfl⟩, ⟨_, Try.underlying222, rfl, rfl, trivial, fun h => by cases h⟩, ⟨rfl, rfl⟩, fun _ => ⟨Try.t222, _, (by kernel_rfl : Try.prog.info? 222 = some Try.t222), rfl, rfl⟩⟩

def T238 : TI := ⟨1, 4, false, [.int .u32 0], [1], (.int .u32), 0, [], false⟩

theorem ok238 : TI.Ok Try.prog 238 T238 := ⟨⟨Try.t238, _, (by kernel_rfl : Try.prog.info? 238 = some Try.t238), rfl, rfl, rfl, rfl⟩, ⟨_, Try.underlying238, rfl, rfl, trivial, fun h => by cases h⟩, ⟨rfl, rfl⟩, fun _ => ⟨Try.t238, _, (by kernel_rfl : Try.prog.info? 238 = some Try.t238), rfl, rfl⟩⟩

def tab : Tab
  | 2 => some T2
  | 3 => some T3
  | 4 => some T4
  | 5 => some T5
  | 9 => some T9
  | 22 => some T22
  | 23 => some T23
  | 25 => some T25
  | 28 => some T28
  | 29 => some T29
  | 33 => some T33
  | 45 => some T45
  | 47 => some T47
  | 49 => some T49
  | 53 => some T53
  | 55 => some T55
  | 56 => some T56
  | 72 => some T72
  | 79 => some T79
  | 89 => some T89
  | 95 => some T95
  | 96 => some T96
  | 101 => some T101
  | 123 => some T123
  | 129 => some T129
  | 140 => some T140
  | 143 => some T143
  | 169 => some T169
  | 174 => some T174
  | 188 => some T188
  | 192 => some T192
  | 201 => some T201
  | 222 => some T222
  | 238 => some T238
  | _ => none

theorem tab_ok : Tab.Ok Try.prog tab := fun t i h => by
  unfold tab at h
  split at h <;> first
    | (cases h; done)
    | (cases h; exact ok2)
    | (cases h; exact ok3)
    | (cases h; exact ok4)
    | (cases h; exact ok5)
    | (cases h; exact ok9)
    | (cases h; exact ok22)
    | (cases h; exact ok23)
    | (cases h; exact ok25)
    | (cases h; exact ok28)
    | (cases h; exact ok29)
    | (cases h; exact ok33)
    | (cases h; exact ok45)
    | (cases h; exact ok47)
    | (cases h; exact ok49)
    | (cases h; exact ok53)
    | (cases h; exact ok55)
    | (cases h; exact ok56)
    | (cases h; exact ok72)
    | (cases h; exact ok79)
    | (cases h; exact ok89)
    | (cases h; exact ok95)
    | (cases h; exact ok96)
    | (cases h; exact ok101)
    | (cases h; exact ok123)
    | (cases h; exact ok129)
    | (cases h; exact ok140)
    | (cases h; exact ok143)
    | (cases h; exact ok169)
    | (cases h; exact ok174)
    | (cases h; exact ok188)
    | (cases h; exact ok192)
    | (cases h; exact ok201)
    | (cases h; exact ok222)
    | (cases h; exact ok238)

theorem bt : type_of% @T2.eq_1 ∧ type_of% @T3.eq_1 ∧ type_of% @T4.eq_1 ∧ type_of% @T5.eq_1 ∧ type_of% @T9.eq_1 ∧ type_of% @T22.eq_1 ∧ type_of% @T23.eq_1 ∧ type_of% @T25.eq_1 ∧ type_of% @T28.eq_1 ∧ type_of% @T29.eq_1 ∧ type_of% @T33.eq_1 ∧ type_of% @T45.eq_1 ∧ type_of% @T47.eq_1 ∧ type_of% @T49.eq_1 ∧ type_of% @T53.eq_1 ∧ type_of% @T55.eq_1 ∧ type_of% @T56.eq_1 ∧ type_of% @T72.eq_1 ∧ type_of% @T79.eq_1 ∧ type_of% @T89.eq_1 ∧ type_of% @T95.eq_1 ∧ type_of% @T96.eq_1 ∧ type_of% @T101.eq_1 ∧ type_of% @T123.eq_1 ∧ type_of% @T129.eq_1 ∧ type_of% @T140.eq_1 ∧ type_of% @T143.eq_1 ∧ type_of% @T169.eq_1 ∧ type_of% @T174.eq_1 ∧ type_of% @T188.eq_1 ∧ type_of% @T192.eq_1 ∧ type_of% @T201.eq_1 ∧ type_of% @T222.eq_1 ∧ type_of% @T238.eq_1 ∧ type_of% @tab.eq_1 ∧ type_of% @tab.eq_2 ∧ type_of% @tab.eq_3 ∧ type_of% @tab.eq_4 ∧ type_of% @tab.eq_5 ∧ type_of% @tab.eq_6 ∧ type_of% @tab.eq_7 ∧ type_of% @tab.eq_8 ∧ type_of% @tab.eq_9 ∧ type_of% @tab.eq_10 ∧ type_of% @tab.eq_11 ∧ type_of% @tab.eq_12 ∧ type_of% @tab.eq_13 ∧ type_of% @tab.eq_14 ∧ type_of% @tab.eq_15 ∧ type_of% @tab.eq_16 ∧ type_of% @tab.eq_17 ∧ type_of% @tab.eq_18 ∧ type_of% @tab.eq_19 ∧ type_of% @tab.eq_20 ∧ type_of% @tab.eq_21 ∧ type_of% @tab.eq_22 ∧ type_of% @tab.eq_23 ∧ type_of% @tab.eq_24 ∧ type_of% @tab.eq_25 ∧ type_of% @tab.eq_26 ∧ type_of% @tab.eq_27 ∧ type_of% @tab.eq_28 ∧ type_of% @tab.eq_29 ∧ type_of% @tab.eq_30 ∧ type_of% @tab.eq_31 ∧ type_of% @tab.eq_32 ∧ type_of% @tab.eq_33 ∧ type_of% @tab.eq_34 := ⟨@T2.eq_1, @T3.eq_1, @T4.eq_1, @T5.eq_1, @T9.eq_1, @T22.eq_1, @T23.eq_1, @T25.eq_1, @T28.eq_1, @T29.eq_1, @T33.eq_1, @T45.eq_1, @T47.eq_1, @T49.eq_1, @T53.eq_1, @T55.eq_1, @T56.eq_1, @T72.eq_1, @T79.eq_1, @T89.eq_1, @T95.eq_1, @T96.eq_1, @T101.eq_1, @T123.eq_1, @T129.eq_1, @T140.eq_1, @T143.eq_1, @T169.eq_1, @T174.eq_1, @T188.eq_1, @T192.eq_1, @T201.eq_1, @T222.eq_1, @T238.eq_1, @tab.eq_1, @tab.eq_2, @tab.eq_3, @tab.eq_4, @tab.eq_5, @tab.eq_6, @tab.eq_7, @tab.eq_8, @tab.eq_9, @tab.eq_10, @tab.eq_11, @tab.eq_12, @tab.eq_13, @tab.eq_14, @tab.eq_15, @tab.eq_16, @tab.eq_17, @tab.eq_18, @tab.eq_19, @tab.eq_20, @tab.eq_21, @tab.eq_22, @tab.eq_23, @tab.eq_24, @tab.eq_25, @tab.eq_26, @tab.eq_27, @tab.eq_28, @tab.eq_29, @tab.eq_30, @tab.eq_31, @tab.eq_32, @tab.eq_33, @tab.eq_34⟩

theorem follows_mixed : Try.prog.follows .mixedOrders = true := by kernel_rfl

end Go.Proofs.Ythabldkbiedfmaa.T
