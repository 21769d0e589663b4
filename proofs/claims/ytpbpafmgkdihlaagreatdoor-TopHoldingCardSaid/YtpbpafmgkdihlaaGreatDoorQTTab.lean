import Derived.Test.YtpbpafmgkdihlaaGreatDoorQTO
import Derived.Test.YtpbpafmgkdihlaaGreatDoorProg
import Derived.KernelRfl
set_option linter.all false
namespace Go.Proofs.YtpbpafmgkdihlaaGreatDoor.T
open Go Go.RowKit
theorem okx {t : TypeId} {T : TI} {x : _} {d : _} {z : Value} (i : Tryz.prog.info? t = some x) (u : Tryz.prog.underlying t = some d) (a : x.size = T.sz ∧ x.bytes = T.bytes ∧ x.zero = some z ∧ z.cells.toList = T.zv := by exact ⟨rfl, rfl, rfl, rfl⟩) (b : Y33 d = T.kind ∧ Y95 d = T.agg ∧ Yoq Tryz.prog T d := by exact ⟨rfl, rfl, trivial⟩) (e : T.eqs = [] := by rfl) (l : T.zv.length = T.sz ∧ T.zes.length = T.sz := by exact ⟨rfl, rfl⟩) (o : T.agg = false → T.zv = [z] := by exact fun _ => rfl) : TI.Ok Tryz.prog t T := ⟨⟨x, z, i, a.1, a.2.1, a.2.2.1, a.2.2.2⟩, ⟨d, u, b.1, b.2.1, b.2.2, fun h => absurd e h⟩, l, fun h => ⟨x, z, i, a.2.2.1, o h⟩⟩
def T1 : TI := ⟨1, 8, false, [.nilFunc], [1], .other, 0, [], []⟩
theorem ok1 : TI.Ok Tryz.prog 1 T1 := okx (x := Tryz.t1) (by kernel_rfl) Tryz.underlying1
def T2 : TI := ⟨1, 8, false, [.int .i64 0], [1], (.int .i64), 0, [], []⟩
theorem ok2 : TI.Ok Tryz.prog 2 T2 := okx (x := Tryz.t2) (by kernel_rfl) Tryz.underlying2
def T3 : TI := ⟨1, 8, false, [.int .i64 0], [1], (.int .i64), 0, [], []⟩
theorem ok3 : TI.Ok Tryz.prog 3 T3 := okx (x := Tryz.t3) (by kernel_rfl) Tryz.underlying3
def T4 : TI := ⟨1, 1, false, [.bool false], [1], .bool, 0, [], []⟩
theorem ok4 : TI.Ok Tryz.prog 4 T4 := okx (x := Tryz.t4) (by kernel_rfl) Tryz.underlying4
def T5 : TI := ⟨1, 1, false, [.int .u8 0], [1], (.int .u8), 0, [], []⟩
theorem ok5 : TI.Ok Tryz.prog 5 T5 := okx (x := Tryz.t5) (by kernel_rfl) Tryz.underlying5
def T6 : TI := ⟨1, 1, false, [.int .u8 0], [1], (.int .u8), 0, [], []⟩
theorem ok6 : TI.Ok Tryz.prog 6 T6 := okx (x := Tryz.t6) (by kernel_rfl) Tryz.underlying6
def T8 : TI := ⟨4, 24, true, [.int .i64 0, .int .i64 0, .bool false, .int .u8 0], [1, 1, 1, 1], .struct, 0, [(0, 1, false), (1, 1, false), (2, 1, false), (3, 1, false)], []⟩
theorem ok8 : TI.Ok Tryz.prog 8 T8 := have i : Tryz.prog.info? 8 = some Tryz.t8 := (by kernel_rfl); ⟨⟨_, _, i, rfl, rfl, rfl, rfl⟩, ⟨_, Tryz.underlying8, rfl, rfl, ⟨_, _, rfl, ⟨Tryz.t2, _, (by kernel_rfl : Tryz.prog.info? 2 = some Tryz.t2), by decide, Tryz.underlying2, rfl⟩, ⟨_, _, rfl, ⟨Tryz.t3, _, (by kernel_rfl : Tryz.prog.info? 3 = some Tryz.t3), by decide, Tryz.underlying3, rfl⟩, ⟨_, _, rfl, ⟨Tryz.t4, _, (by kernel_rfl : Tryz.prog.info? 4 = some Tryz.t4), by decide, Tryz.underlying4, rfl⟩, ⟨_, _, rfl, ⟨Tryz.t6, _, (by kernel_rfl : Tryz.prog.info? 6 = some Tryz.t6), by decide, Tryz.underlying6, rfl⟩, rfl⟩⟩⟩⟩, fun h => absurd rfl h⟩, ⟨rfl, rfl⟩, fun h => by cases h⟩
def T9 : TI := ⟨1, 16, false, [.string ⟨#[]⟩], [1], .str, 0, [], []⟩
theorem ok9 : TI.Ok Tryz.prog 9 T9 := okx (x := Tryz.t9) (by kernel_rfl) Tryz.underlying9
def T10 : TI := ⟨1, 16, false, [.string ⟨#[]⟩], [1], .str, 0, [], []⟩
theorem ok10 : TI.Ok Tryz.prog 10 T10 := okx (x := Tryz.t10) (by kernel_rfl) Tryz.underlying10
def T11 : TI := ⟨1, 16, false, [.string ⟨#[]⟩], [1], .str, 0, [], []⟩
theorem ok11 : TI.Ok Tryz.prog 11 T11 := okx (x := Tryz.t11) (by kernel_rfl) Tryz.underlying11
def T12 : TI := ⟨1, 8, false, [.int .u64 0], [1], (.int .u64), 0, [], []⟩
theorem ok12 : TI.Ok Tryz.prog 12 T12 := okx (x := Tryz.t12) (by kernel_rfl) Tryz.underlying12
def T14 : TI := ⟨2, 24, true, [.string ⟨#[]⟩, .int .u64 0], [1, 1], .struct, 0, [(0, 1, false), (1, 1, false)], []⟩
theorem ok14 : TI.Ok Tryz.prog 14 T14 := have i : Tryz.prog.info? 14 = some Tryz.t14 := (by kernel_rfl); ⟨⟨_, _, i, rfl, rfl, rfl, rfl⟩, ⟨_, Tryz.underlying14, rfl, rfl, ⟨_, _, rfl, ⟨Tryz.t9, _, (by kernel_rfl : Tryz.prog.info? 9 = some Tryz.t9), by decide, Tryz.underlying9, rfl⟩, ⟨_, _, rfl, ⟨Tryz.t12, _, (by kernel_rfl : Tryz.prog.info? 12 = some Tryz.t12), by decide, Tryz.underlying12, rfl⟩, rfl⟩⟩, fun h => absurd rfl h⟩, ⟨rfl, rfl⟩, fun h => by cases h⟩
def T15 : TI := ⟨1, 8, false, [.pointer none], [1], .other, 0, [], []⟩
theorem ok15 : TI.Ok Tryz.prog 15 T15 := okx (x := Tryz.t15) (by kernel_rfl) Tryz.underlying15
def T16 : TI := ⟨1, 8, false, [.pointer none], [1], .other, 0, [], []⟩
theorem ok16 : TI.Ok Tryz.prog 16 T16 := okx (x := Tryz.t16) (by kernel_rfl) Tryz.underlying16
def T17 : TI := ⟨1, 8, false, [.pointer none], [1], .other, 0, [], []⟩
theorem ok17 : TI.Ok Tryz.prog 17 T17 := okx (x := Tryz.t17) (by kernel_rfl) Tryz.underlying17
def T19 : TI := ⟨1, 8, true, [.pointer none], [1], .struct, 0, [(0, 1, false)], []⟩
theorem ok19 : TI.Ok Tryz.prog 19 T19 := have i : Tryz.prog.info? 19 = some Tryz.t19 := (by kernel_rfl); ⟨⟨_, _, i, rfl, rfl, rfl, rfl⟩, ⟨_, Tryz.underlying19, rfl, rfl, ⟨_, _, rfl, ⟨Tryz.t17, _, (by kernel_rfl : Tryz.prog.info? 17 = some Tryz.t17), by decide, Tryz.underlying17, rfl⟩, rfl⟩, fun h => absurd rfl h⟩, ⟨rfl, rfl⟩, fun h => by cases h⟩
def T20 : TI := ⟨1, 16, false, [.nilIface], [1], .other, 0, [], []⟩
theorem ok20 : TI.Ok Tryz.prog 20 T20 := okx (x := Tryz.t20) (by kernel_rfl) Tryz.underlying20
def T22 : TI := ⟨1, 24, false, [.slice none 0 0], [2], (.slice 48), 2, [], []⟩
theorem ok22 : TI.Ok Tryz.prog 22 T22 := have i : Tryz.prog.info? 22 = some Tryz.t22 := (by kernel_rfl); ⟨⟨_, _, i, rfl, rfl, rfl, rfl⟩, ⟨_, Tryz.underlying22, rfl, rfl, ⟨Tryz.t48, (by kernel_rfl : Tryz.prog.info? 48 = some Tryz.t48), rfl, by decide⟩, fun h => absurd rfl h⟩, ⟨rfl, rfl⟩, fun _ => ⟨_, _, i, rfl, rfl⟩⟩
def T23 : TI := ⟨1, 24, false, [.slice none 0 0], [3], (.slice 30), 3, [], []⟩
theorem ok23 : TI.Ok Tryz.prog 23 T23 := have i : Tryz.prog.info? 23 = some Tryz.t23 := (by kernel_rfl); ⟨⟨_, _, i, rfl, rfl, rfl, rfl⟩, ⟨_, Tryz.underlying23, rfl, rfl, ⟨Tryz.t30, (by kernel_rfl : Tryz.prog.info? 30 = some Tryz.t30), rfl, by decide⟩, fun h => absurd rfl h⟩, ⟨rfl, rfl⟩, fun _ => ⟨_, _, i, rfl, rfl⟩⟩
def T25 : TI := ⟨2, 48, true, [.slice none 0 0, .slice none 0 0], [2, 3], .struct, 0, [(0, 1, false), (1, 1, false)], []⟩
theorem ok25 : TI.Ok Tryz.prog 25 T25 := have i : Tryz.prog.info? 25 = some Tryz.t25 := (by kernel_rfl); ⟨⟨_, _, i, rfl, rfl, rfl, rfl⟩, ⟨_, Tryz.underlying25, rfl, rfl, ⟨_, _, rfl, ⟨Tryz.t22, _, (by kernel_rfl : Tryz.prog.info? 22 = some Tryz.t22), by decide, Tryz.underlying22, rfl⟩, ⟨_, _, rfl, ⟨Tryz.t23, _, (by kernel_rfl : Tryz.prog.info? 23 = some Tryz.t23), by decide, Tryz.underlying23, rfl⟩, rfl⟩⟩, fun h => absurd rfl h⟩, ⟨rfl, rfl⟩, fun h => by cases h⟩
def T28 : TI := ⟨1, 24, false, [.slice none 0 0], [4], (.slice 35), 4, [], []⟩
theorem ok28 : TI.Ok Tryz.prog 28 T28 := have i : Tryz.prog.info? 28 = some Tryz.t28 := (by kernel_rfl); ⟨⟨_, _, i, rfl, rfl, rfl, rfl⟩, ⟨_, Tryz.underlying28, rfl, rfl, ⟨Tryz.t35, (by kernel_rfl : Tryz.prog.info? 35 = some Tryz.t35), rfl, by decide⟩, fun h => absurd rfl h⟩, ⟨rfl, rfl⟩, fun _ => ⟨_, _, i, rfl, rfl⟩⟩
def T30 : TI := ⟨3, 48, true, [.string ⟨#[]⟩, .slice none 0 0, .bool false], [1, 4, 1], .struct, 0, [(0, 1, false), (1, 1, false), (2, 1, false)], []⟩
theorem ok30 : TI.Ok Tryz.prog 30 T30 := have i : Tryz.prog.info? 30 = some Tryz.t30 := (by kernel_rfl); ⟨⟨_, _, i, rfl, rfl, rfl, rfl⟩, ⟨_, Tryz.underlying30, rfl, rfl, ⟨_, _, rfl, ⟨Tryz.t9, _, (by kernel_rfl : Tryz.prog.info? 9 = some Tryz.t9), by decide, Tryz.underlying9, rfl⟩, ⟨_, _, rfl, ⟨Tryz.t28, _, (by kernel_rfl : Tryz.prog.info? 28 = some Tryz.t28), by decide, Tryz.underlying28, rfl⟩, ⟨_, _, rfl, ⟨Tryz.t4, _, (by kernel_rfl : Tryz.prog.info? 4 = some Tryz.t4), by decide, Tryz.underlying4, rfl⟩, rfl⟩⟩⟩, fun h => absurd rfl h⟩, ⟨rfl, rfl⟩, fun h => by cases h⟩
def T33 : TI := ⟨2, 16, true, [.int .i64 0, .int .i64 0], [1, 1], .struct, 0, [(0, 1, false), (1, 1, false)], [true, true]⟩
theorem ok33 : TI.Ok Tryz.prog 33 T33 := have i : Tryz.prog.info? 33 = some Tryz.t33 := (by kernel_rfl); ⟨⟨_, _, i, rfl, rfl, rfl, rfl⟩, ⟨_, Tryz.underlying33, rfl, rfl, ⟨_, _, rfl, ⟨Tryz.t3, _, (by kernel_rfl : Tryz.prog.info? 3 = some Tryz.t3), by decide, Tryz.underlying3, rfl⟩, ⟨_, _, rfl, ⟨Tryz.t3, _, (by kernel_rfl : Tryz.prog.info? 3 = some Tryz.t3), by decide, Tryz.underlying3, rfl⟩, rfl⟩⟩, fun _ => ⟨Tryz.stoodInHeld33, Tryz.eqGuardType33, ⟨by decide, rfl, .inl ⟨_, _, rfl, Tryz.underlying3, ⟨by decide, rfl, .inl ⟨_, _, rfl, Tryz.underlying3, rfl⟩⟩⟩⟩⟩⟩, ⟨rfl, rfl⟩, fun h => by cases h⟩
def T35 : TI := ⟨4, 40, true, [.string ⟨#[]⟩, .int .i64 0, .int .i64 0, .int .i64 0], [1, 1, 1, 1], .struct, 0, [(0, 1, false), (1, 1, false), (2, 2, true)], [false, true, true, true]⟩
theorem ok35 : TI.Ok Tryz.prog 35 T35 := have i : Tryz.prog.info? 35 = some Tryz.t35 := (by kernel_rfl); ⟨⟨_, _, i, rfl, rfl, rfl, rfl⟩, ⟨_, Tryz.underlying35, rfl, rfl, ⟨_, _, rfl, ⟨Tryz.t9, _, (by kernel_rfl : Tryz.prog.info? 9 = some Tryz.t9), by decide, Tryz.underlying9, rfl⟩, ⟨_, _, rfl, ⟨Tryz.t3, _, (by kernel_rfl : Tryz.prog.info? 3 = some Tryz.t3), by decide, Tryz.underlying3, rfl⟩, ⟨_, _, rfl, ⟨Tryz.t33, _, (by kernel_rfl : Tryz.prog.info? 33 = some Tryz.t33), by decide, Tryz.underlying33, rfl⟩, rfl⟩⟩⟩, fun _ => ⟨Tryz.stoodInHeld35, Tryz.eqGuardType35, ⟨by decide, rfl, .inr (.inl ⟨_, rfl, Tryz.underlying9, ⟨by decide, rfl, .inl ⟨_, _, rfl, Tryz.underlying3, ⟨by decide, rfl, .inr (.inr ⟨_, Tryz.t33, _, Tryz.underlying33, Tryz.stoodInHeld33, (by kernel_rfl : Tryz.prog.info? 33 = some Tryz.t33), rfl, ⟨⟨by decide, rfl, _, Tryz.underlying3⟩, ⟨⟨by decide, rfl, _, Tryz.underlying3⟩, trivial⟩⟩, rfl, rfl⟩)⟩⟩⟩⟩)⟩⟩⟩, ⟨rfl, rfl⟩, fun h => by cases h⟩
def T36 : TI := ⟨1, 8, false, [.nilFunc], [1], .other, 0, [], []⟩
theorem ok36 : TI.Ok Tryz.prog 36 T36 := okx (x := Tryz.t36) (by kernel_rfl) Tryz.underlying36
def T37 : TI := ⟨1, 8, false, [.int .i64 0], [1], (.int .i64), 0, [], []⟩
theorem ok37 : TI.Ok Tryz.prog 37 T37 := okx (x := Tryz.t37) (by kernel_rfl) Tryz.underlying37
def T48 : TI := ⟨2, 24, true, [.string ⟨#[]⟩, .int .i64 0], [1, 1], .struct, 0, [(0, 1, false), (1, 1, false)], [false, true]⟩
theorem ok48 : TI.Ok Tryz.prog 48 T48 := have i : Tryz.prog.info? 48 = some Tryz.t48 := (by kernel_rfl); ⟨⟨_, _, i, rfl, rfl, rfl, rfl⟩, ⟨_, Tryz.underlying48, rfl, rfl, ⟨_, _, rfl, ⟨Tryz.t9, _, (by kernel_rfl : Tryz.prog.info? 9 = some Tryz.t9), by decide, Tryz.underlying9, rfl⟩, ⟨_, _, rfl, ⟨Tryz.t3, _, (by kernel_rfl : Tryz.prog.info? 3 = some Tryz.t3), by decide, Tryz.underlying3, rfl⟩, rfl⟩⟩, fun _ => ⟨Tryz.stoodInHeld48, Tryz.eqGuardType48, ⟨by decide, rfl, .inr (.inl ⟨_, rfl, Tryz.underlying9, ⟨by decide, rfl, .inl ⟨_, _, rfl, Tryz.underlying3, rfl⟩⟩⟩)⟩⟩⟩, ⟨rfl, rfl⟩, fun h => by cases h⟩
def T51 : TI := ⟨1, 24, false, [.slice none 0 0], [2], (.slice 33), 2, [], []⟩
theorem ok51 : TI.Ok Tryz.prog 51 T51 := have i : Tryz.prog.info? 51 = some Tryz.t51 := (by kernel_rfl); ⟨⟨_, _, i, rfl, rfl, rfl, rfl⟩, ⟨_, Tryz.underlying51, rfl, rfl, ⟨Tryz.t33, (by kernel_rfl : Tryz.prog.info? 33 = some Tryz.t33), rfl, by decide⟩, fun h => absurd rfl h⟩, ⟨rfl, rfl⟩, fun _ => ⟨_, _, i, rfl, rfl⟩⟩
def T53 : TI := ⟨3, 56, true, [.slice none 0 0, .bool false, .slice none 0 0], [2, 1, 2], .struct, 0, [(0, 1, false), (1, 1, false), (2, 1, false)], []⟩
theorem ok53 : TI.Ok Tryz.prog 53 T53 := have i : Tryz.prog.info? 53 = some Tryz.t53 := (by kernel_rfl); ⟨⟨_, _, i, rfl, rfl, rfl, rfl⟩, ⟨_, Tryz.underlying53, rfl, rfl, ⟨_, _, rfl, ⟨Tryz.t51, _, (by kernel_rfl : Tryz.prog.info? 51 = some Tryz.t51), by decide, Tryz.underlying51, rfl⟩, ⟨_, _, rfl, ⟨Tryz.t4, _, (by kernel_rfl : Tryz.prog.info? 4 = some Tryz.t4), by decide, Tryz.underlying4, rfl⟩, ⟨_, _, rfl, ⟨Tryz.t51, _, (by kernel_rfl : Tryz.prog.info? 51 = some Tryz.t51), by decide, Tryz.underlying51, rfl⟩, rfl⟩⟩⟩, fun h => absurd rfl h⟩, ⟨rfl, rfl⟩, fun h => by cases h⟩
def T59 : TI := ⟨1, 24, false, [.slice none 0 0], [1], (.slice 3), 1, [], []⟩
theorem ok59 : TI.Ok Tryz.prog 59 T59 := have i : Tryz.prog.info? 59 = some Tryz.t59 := (by kernel_rfl); ⟨⟨_, _, i, rfl, rfl, rfl, rfl⟩, ⟨_, Tryz.underlying59, rfl, rfl, ⟨Tryz.t3, (by kernel_rfl : Tryz.prog.info? 3 = some Tryz.t3), rfl, by decide⟩, fun h => absurd rfl h⟩, ⟨rfl, rfl⟩, fun _ => ⟨_, _, i, rfl, rfl⟩⟩
def T63 : TI := ⟨3, 32, true, [.string ⟨#[]⟩, .int .i64 0, .int .i64 0], [1, 1, 1], .struct, 0, [(0, 1, false), (1, 1, false), (2, 1, false)], [false, true, true]⟩
theorem ok63 : TI.Ok Tryz.prog 63 T63 := have i : Tryz.prog.info? 63 = some Tryz.t63 := (by kernel_rfl); ⟨⟨_, _, i, rfl, rfl, rfl, rfl⟩, ⟨_, Tryz.underlying63, rfl, rfl, ⟨_, _, rfl, ⟨Tryz.t9, _, (by kernel_rfl : Tryz.prog.info? 9 = some Tryz.t9), by decide, Tryz.underlying9, rfl⟩, ⟨_, _, rfl, ⟨Tryz.t3, _, (by kernel_rfl : Tryz.prog.info? 3 = some Tryz.t3), by decide, Tryz.underlying3, rfl⟩, ⟨_, _, rfl, ⟨Tryz.t3, _, (by kernel_rfl : Tryz.prog.info? 3 = some Tryz.t3), by decide, Tryz.underlying3, rfl⟩, rfl⟩⟩⟩, fun _ => ⟨Tryz.stoodInHeld63, Tryz.eqGuardType63, ⟨by decide, rfl, .inr (.inl ⟨_, rfl, Tryz.underlying9, ⟨by decide, rfl, .inl ⟨_, _, rfl, Tryz.underlying3, ⟨by decide, rfl, .inl ⟨_, _, rfl, Tryz.underlying3, rfl⟩⟩⟩⟩⟩)⟩⟩⟩, ⟨rfl, rfl⟩, fun h => by cases h⟩
def T64 : TI := ⟨1, 24, false, [.slice none 0 0], [3], (.slice 63), 3, [], []⟩
theorem ok64 : TI.Ok Tryz.prog 64 T64 := have i : Tryz.prog.info? 64 = some Tryz.t64 := (by kernel_rfl); ⟨⟨_, _, i, rfl, rfl, rfl, rfl⟩, ⟨_, Tryz.underlying64, rfl, rfl, ⟨Tryz.t63, (by kernel_rfl : Tryz.prog.info? 63 = some Tryz.t63), rfl, by decide⟩, fun h => absurd rfl h⟩, ⟨rfl, rfl⟩, fun _ => ⟨_, _, i, rfl, rfl⟩⟩
def T69 : TI := ⟨1, 8, false, [.nilFunc], [1], .other, 0, [], []⟩
theorem ok69 : TI.Ok Tryz.prog 69 T69 := okx (x := Tryz.t69) (by kernel_rfl) Tryz.underlying69
def T75 : TI := ⟨1, 8, false, [.int .u64 0], [1], (.int .u64), 0, [], []⟩
theorem ok75 : TI.Ok Tryz.prog 75 T75 := okx (x := Tryz.t75) (by kernel_rfl) Tryz.underlying75
def T77 : TI := ⟨2, 16, true, [.int .u64 0, .int .u64 0], [1, 1], .struct, 0, [(0, 1, false), (1, 1, false)], [true, true]⟩
theorem ok77 : TI.Ok Tryz.prog 77 T77 := have i : Tryz.prog.info? 77 = some Tryz.t77 := (by kernel_rfl); ⟨⟨_, _, i, rfl, rfl, rfl, rfl⟩, ⟨_, Tryz.underlying77, rfl, rfl, ⟨_, _, rfl, ⟨Tryz.t75, _, (by kernel_rfl : Tryz.prog.info? 75 = some Tryz.t75), by decide, Tryz.underlying75, rfl⟩, ⟨_, _, rfl, ⟨Tryz.t75, _, (by kernel_rfl : Tryz.prog.info? 75 = some Tryz.t75), by decide, Tryz.underlying75, rfl⟩, rfl⟩⟩, fun _ => ⟨Tryz.stoodInHeld77, Tryz.eqGuardType77, ⟨by decide, rfl, .inl ⟨_, _, rfl, Tryz.underlying75, ⟨by decide, rfl, .inl ⟨_, _, rfl, Tryz.underlying75, rfl⟩⟩⟩⟩⟩⟩, ⟨rfl, rfl⟩, fun h => by cases h⟩
def T79 : TI := ⟨1, 8, false, [.nilFunc], [1], .other, 0, [], []⟩
theorem ok79 : TI.Ok Tryz.prog 79 T79 := okx (x := Tryz.t79) (by kernel_rfl) Tryz.underlying79
def T81 : TI := ⟨1, 8, false, [.nilFunc], [1], .other, 0, [], []⟩
theorem ok81 : TI.Ok Tryz.prog 81 T81 := okx (x := Tryz.t81) (by kernel_rfl) Tryz.underlying81
def T84 : TI := ⟨2, 16, true, [.int .u64 0, .int .u64 0], [1, 1], .struct, 0, [(0, 1, false), (1, 1, false)], [true, true]⟩
theorem ok84 : TI.Ok Tryz.prog 84 T84 := have i : Tryz.prog.info? 84 = some Tryz.t84 := (by kernel_rfl); ⟨⟨_, _, i, rfl, rfl, rfl, rfl⟩, ⟨_, Tryz.underlying84, rfl, rfl, ⟨_, _, rfl, ⟨Tryz.t75, _, (by kernel_rfl : Tryz.prog.info? 75 = some Tryz.t75), by decide, Tryz.underlying75, rfl⟩, ⟨_, _, rfl, ⟨Tryz.t75, _, (by kernel_rfl : Tryz.prog.info? 75 = some Tryz.t75), by decide, Tryz.underlying75, rfl⟩, rfl⟩⟩, fun _ => ⟨Tryz.stoodInHeld84, Tryz.eqGuardType84, ⟨by decide, rfl, .inl ⟨_, _, rfl, Tryz.underlying75, ⟨by decide, rfl, .inl ⟨_, _, rfl, Tryz.underlying75, rfl⟩⟩⟩⟩⟩⟩, ⟨rfl, rfl⟩, fun h => by cases h⟩
def T96 : TI := ⟨1, 8, false, [.nilFunc], [1], .other, 0, [], []⟩
theorem ok96 : TI.Ok Tryz.prog 96 T96 := okx (x := Tryz.t96) (by kernel_rfl) Tryz.underlying96
def T97 : TI := ⟨1, 8, false, [.pointer none], [1], .other, 0, [], []⟩
theorem ok97 : TI.Ok Tryz.prog 97 T97 := okx (x := Tryz.t97) (by kernel_rfl) Tryz.underlying97
def T98 : TI := ⟨1, 24, false, [.slice none 0 0], [1], (.slice 5), 1, [], []⟩
theorem ok98 : TI.Ok Tryz.prog 98 T98 := have i : Tryz.prog.info? 98 = some Tryz.t98 := (by kernel_rfl); ⟨⟨_, _, i, rfl, rfl, rfl, rfl⟩, ⟨_, Tryz.underlying98, rfl, rfl, ⟨Tryz.t5, (by kernel_rfl : Tryz.prog.info? 5 = some Tryz.t5), rfl, by decide⟩, fun h => absurd rfl h⟩, ⟨rfl, rfl⟩, fun _ => ⟨_, _, i, rfl, rfl⟩⟩
def T100 : TI := ⟨2, 32, true, [.pointer none, .slice none 0 0], [1, 1], .struct, 0, [(0, 1, false), (1, 1, false)], []⟩
theorem Y11i : TI.Ok Tryz.prog 100 T100 := have i : Tryz.prog.info? 100 = some Tryz.t100 := (by kernel_rfl); ⟨⟨_, _, i, rfl, rfl, rfl, rfl⟩, ⟨_, Tryz.underlying100, rfl, rfl, ⟨_, _, rfl, ⟨Tryz.t97, _, (by kernel_rfl : Tryz.prog.info? 97 = some Tryz.t97), by decide, Tryz.underlying97, rfl⟩, ⟨_, _, rfl, ⟨Tryz.t98, _, (by kernel_rfl : Tryz.prog.info? 98 = some Tryz.t98), by decide, Tryz.underlying98, rfl⟩, rfl⟩⟩, fun h => absurd rfl h⟩, ⟨rfl, rfl⟩, fun h => by cases h⟩
def T102 : TI := ⟨3, 40, true, [.pointer none, .slice none 0 0, .int .i64 0], [1, 1, 1], .struct, 0, [(0, 2, true), (2, 1, false)], []⟩
theorem Y11h : TI.Ok Tryz.prog 102 T102 := have i : Tryz.prog.info? 102 = some Tryz.t102 := (by kernel_rfl); ⟨⟨_, _, i, rfl, rfl, rfl, rfl⟩, ⟨_, Tryz.underlying102, rfl, rfl, ⟨_, _, rfl, ⟨Tryz.t100, _, (by kernel_rfl : Tryz.prog.info? 100 = some Tryz.t100), by decide, Tryz.underlying100, rfl⟩, ⟨_, _, rfl, ⟨Tryz.t37, _, (by kernel_rfl : Tryz.prog.info? 37 = some Tryz.t37), by decide, Tryz.underlying37, rfl⟩, rfl⟩⟩, fun h => absurd rfl h⟩, ⟨rfl, rfl⟩, fun h => by cases h⟩
def T113 : TI := ⟨1, 8, false, [.int .u64 0], [1], (.int .u64), 0, [], []⟩
theorem Y11g : TI.Ok Tryz.prog 113 T113 := okx (x := Tryz.t113) (by kernel_rfl) Tryz.underlying113
def T115 : TI := ⟨1, 8, false, [.nilFunc], [1], .other, 0, [], []⟩
theorem Y11f : TI.Ok Tryz.prog 115 T115 := okx (x := Tryz.t115) (by kernel_rfl) Tryz.underlying115
def T119 : TI := ⟨1, 8, false, [.pointer none], [1], .other, 0, [], []⟩
theorem Y11e : TI.Ok Tryz.prog 119 T119 := okx (x := Tryz.t119) (by kernel_rfl) Tryz.underlying119
def T120 : TI := ⟨1, 24, false, [.slice none 0 0], [1], (.slice 59), 1, [], []⟩
theorem Y11d : TI.Ok Tryz.prog 120 T120 := have i : Tryz.prog.info? 120 = some Tryz.t120 := (by kernel_rfl); ⟨⟨_, _, i, rfl, rfl, rfl, rfl⟩, ⟨_, Tryz.underlying120, rfl, rfl, ⟨Tryz.t59, (by kernel_rfl : Tryz.prog.info? 59 = some Tryz.t59), rfl, by decide⟩, fun h => absurd rfl h⟩, ⟨rfl, rfl⟩, fun _ => ⟨_, _, i, rfl, rfl⟩⟩
def T121 : TI := ⟨1, 24, false, [.slice none 0 0], [1], (.slice 59), 1, [], []⟩
theorem Y11c : TI.Ok Tryz.prog 121 T121 := have i : Tryz.prog.info? 121 = some Tryz.t121 := (by kernel_rfl); ⟨⟨_, _, i, rfl, rfl, rfl, rfl⟩, ⟨_, Tryz.underlying121, rfl, rfl, ⟨Tryz.t59, (by kernel_rfl : Tryz.prog.info? 59 = some Tryz.t59), rfl, by decide⟩, fun h => absurd rfl h⟩, ⟨rfl, rfl⟩, fun _ => ⟨_, _, i, rfl, rfl⟩⟩
def T126 : TI := ⟨1, 24, false, [.slice none 0 0], [3], (.slice 194), 3, [], []⟩
theorem Y11b : TI.Ok Tryz.prog 126 T126 := have i : Tryz.prog.info? 126 = some Tryz.t126 := (by kernel_rfl); ⟨⟨_, _, i, rfl, rfl, rfl, rfl⟩, ⟨_, Tryz.underlying126, rfl, rfl, ⟨Tryz.t194, (by kernel_rfl : Tryz.prog.info? 194 = some Tryz.t194), rfl, by decide⟩, fun h => absurd rfl h⟩, ⟨rfl, rfl⟩, fun _ => ⟨_, _, i, rfl, rfl⟩⟩
def T128 : TI := ⟨2, 48, true, [.slice none 0 0, .slice none 0 0], [1, 3], .struct, 0, [(0, 1, false), (1, 1, false)], []⟩
theorem Y11a : TI.Ok Tryz.prog 128 T128 := have i : Tryz.prog.info? 128 = some Tryz.t128 := (by kernel_rfl); ⟨⟨_, _, i, rfl, rfl, rfl, rfl⟩, ⟨_, Tryz.underlying128, rfl, rfl, ⟨_, _, rfl, ⟨Tryz.t59, _, (by kernel_rfl : Tryz.prog.info? 59 = some Tryz.t59), by decide, Tryz.underlying59, rfl⟩, ⟨_, _, rfl, ⟨Tryz.t126, _, (by kernel_rfl : Tryz.prog.info? 126 = some Tryz.t126), by decide, Tryz.underlying126, rfl⟩, rfl⟩⟩, fun h => absurd rfl h⟩, ⟨rfl, rfl⟩, fun h => by cases h⟩
def T132 : TI := ⟨4, 64, true, [.int .i64 0, .int .i64 0, .slice none 0 0, .slice none 0 0], [1, 1, 2, 2], .struct, 0, [(0, 2, true), (2, 1, false), (3, 1, false)], []⟩
theorem Y119 : TI.Ok Tryz.prog 132 T132 := have i : Tryz.prog.info? 132 = some Tryz.t132 := (by kernel_rfl); ⟨⟨_, _, i, rfl, rfl, rfl, rfl⟩, ⟨_, Tryz.underlying132, rfl, rfl, ⟨_, _, rfl, ⟨Tryz.t33, _, (by kernel_rfl : Tryz.prog.info? 33 = some Tryz.t33), by decide, Tryz.underlying33, rfl⟩, ⟨_, _, rfl, ⟨Tryz.t51, _, (by kernel_rfl : Tryz.prog.info? 51 = some Tryz.t51), by decide, Tryz.underlying51, rfl⟩, ⟨_, _, rfl, ⟨Tryz.t51, _, (by kernel_rfl : Tryz.prog.info? 51 = some Tryz.t51), by decide, Tryz.underlying51, rfl⟩, rfl⟩⟩⟩, fun h => absurd rfl h⟩, ⟨rfl, rfl⟩, fun h => by cases h⟩
def T137 : TI := ⟨1, 8, false, [.map none], [1], (.map 9 4), 0, [], []⟩
theorem Y118 : TI.Ok Tryz.prog 137 T137 := okx (x := Tryz.t137) (by kernel_rfl) Tryz.underlying137
def T138 : TI := ⟨1, 8, false, [.pointer none], [1], .other, 0, [], []⟩
theorem Y117 : TI.Ok Tryz.prog 138 T138 := okx (x := Tryz.t138) (by kernel_rfl) Tryz.underlying138
def T139 : TI := ⟨1, 24, false, [.slice none 0 0], [1], (.slice 20), 1, [], []⟩
theorem Y116 : TI.Ok Tryz.prog 139 T139 := have i : Tryz.prog.info? 139 = some Tryz.t139 := (by kernel_rfl); ⟨⟨_, _, i, rfl, rfl, rfl, rfl⟩, ⟨_, Tryz.underlying139, rfl, rfl, ⟨Tryz.t20, (by kernel_rfl : Tryz.prog.info? 20 = some Tryz.t20), rfl, by decide⟩, fun h => absurd rfl h⟩, ⟨rfl, rfl⟩, fun _ => ⟨_, _, i, rfl, rfl⟩⟩
def T141 : TI := ⟨1, 16, false, [.nilIface], [1], .other, 0, [], []⟩
theorem Y115 : TI.Ok Tryz.prog 141 T141 := okx (x := Tryz.t141) (by kernel_rfl) Tryz.underlying141
def T149 : TI := ⟨1, 8, false, [.pointer none], [1], .other, 0, [], []⟩
theorem Y114 : TI.Ok Tryz.prog 149 T149 := okx (x := Tryz.t149) (by kernel_rfl) Tryz.underlying149
def T153 : TI := ⟨1, 8, false, [.nilFunc], [1], .other, 0, [], []⟩
theorem Y113 : TI.Ok Tryz.prog 153 T153 := okx (x := Tryz.t153) (by kernel_rfl) Tryz.underlying153
def T157 : TI := ⟨1, 24, false, [.slice none 0 0], [1], (.slice 51), 1, [], []⟩
theorem Y112 : TI.Ok Tryz.prog 157 T157 := have i : Tryz.prog.info? 157 = some Tryz.t157 := (by kernel_rfl); ⟨⟨_, _, i, rfl, rfl, rfl, rfl⟩, ⟨_, Tryz.underlying157, rfl, rfl, ⟨Tryz.t51, (by kernel_rfl : Tryz.prog.info? 51 = some Tryz.t51), rfl, by decide⟩, fun h => absurd rfl h⟩, ⟨rfl, rfl⟩, fun _ => ⟨_, _, i, rfl, rfl⟩⟩
def T166 : TI := ⟨5, 88, true, [.slice none 0 0, .int .i64 0, .slice none 0 0, .slice none 0 0, .bool false], [1, 1, 1, 1, 1], .struct, 0, [(0, 1, false), (1, 1, false), (2, 1, false), (3, 1, false), (4, 1, false)], []⟩
theorem Y111 : TI.Ok Tryz.prog 166 T166 := have i : Tryz.prog.info? 166 = some Tryz.t166 := (by kernel_rfl); ⟨⟨_, _, i, rfl, rfl, rfl, rfl⟩, ⟨_, Tryz.underlying166, rfl, rfl, ⟨_, _, rfl, ⟨Tryz.t120, _, (by kernel_rfl : Tryz.prog.info? 120 = some Tryz.t120), by decide, Tryz.underlying120, rfl⟩, ⟨_, _, rfl, ⟨Tryz.t3, _, (by kernel_rfl : Tryz.prog.info? 3 = some Tryz.t3), by decide, Tryz.underlying3, rfl⟩, ⟨_, _, rfl, ⟨Tryz.t59, _, (by kernel_rfl : Tryz.prog.info? 59 = some Tryz.t59), by decide, Tryz.underlying59, rfl⟩, ⟨_, _, rfl, ⟨Tryz.t59, _, (by kernel_rfl : Tryz.prog.info? 59 = some Tryz.t59), by decide, Tryz.underlying59, rfl⟩, ⟨_, _, rfl, ⟨Tryz.t4, _, (by kernel_rfl : Tryz.prog.info? 4 = some Tryz.t4), by decide, Tryz.underlying4, rfl⟩, rfl⟩⟩⟩⟩⟩, fun h => absurd rfl h⟩, ⟨rfl, rfl⟩, fun h => by cases h⟩
def T172 : TI := ⟨1, 8, false, [.pointer none], [1], .other, 0, [], []⟩
theorem Y110 : TI.Ok Tryz.prog 172 T172 := okx (x := Tryz.t172) (by kernel_rfl) Tryz.underlying172
def T175 : TI := ⟨7, 120, true, [.slice none 0 0, .int .i64 0, .slice none 0 0, .slice none 0 0, .slice none 0 0, .int .i64 0, .int .i64 0], [1, 1, 1, 1, 1, 1, 1], .struct, 0, [(0, 1, false), (1, 1, false), (2, 1, false), (3, 1, false), (4, 1, false), (5, 1, false), (6, 1, false)], []⟩
theorem Y10z : TI.Ok Tryz.prog 175 T175 := have i : Tryz.prog.info? 175 = some Tryz.t175 := (by kernel_rfl); ⟨⟨_, _, i, rfl, rfl, rfl, rfl⟩, ⟨_, Tryz.underlying175, rfl, rfl, ⟨_, _, rfl, ⟨Tryz.t120, _, (by kernel_rfl : Tryz.prog.info? 120 = some Tryz.t120), by decide, Tryz.underlying120, rfl⟩, ⟨_, _, rfl, ⟨Tryz.t3, _, (by kernel_rfl : Tryz.prog.info? 3 = some Tryz.t3), by decide, Tryz.underlying3, rfl⟩, ⟨_, _, rfl, ⟨Tryz.t59, _, (by kernel_rfl : Tryz.prog.info? 59 = some Tryz.t59), by decide, Tryz.underlying59, rfl⟩, ⟨_, _, rfl, ⟨Tryz.t59, _, (by kernel_rfl : Tryz.prog.info? 59 = some Tryz.t59), by decide, Tryz.underlying59, rfl⟩, ⟨_, _, rfl, ⟨Tryz.t59, _, (by kernel_rfl : Tryz.prog.info? 59 = some Tryz.t59), by decide, Tryz.underlying59, rfl⟩, ⟨_, _, rfl, ⟨Tryz.t3, _, (by kernel_rfl : Tryz.prog.info? 3 = some Tryz.t3), by decide, Tryz.underlying3, rfl⟩, ⟨_, _, rfl, ⟨Tryz.t3, _, (by kernel_rfl : Tryz.prog.info? 3 = some Tryz.t3), by decide, Tryz.underlying3, rfl⟩, rfl⟩⟩⟩⟩⟩⟩⟩, fun h => absurd rfl h⟩, ⟨rfl, rfl⟩, fun h => by cases h⟩
def T179 : TI := ⟨1, 8, false, [.pointer none], [1], .other, 0, [], []⟩
theorem Y10y : TI.Ok Tryz.prog 179 T179 := okx (x := Tryz.t179) (by kernel_rfl) Tryz.underlying179
def T181 : TI := ⟨1, 8, false, [.nilFunc], [1], .other, 0, [], []⟩
theorem Y10x : TI.Ok Tryz.prog 181 T181 := okx (x := Tryz.t181) (by kernel_rfl) Tryz.underlying181
def T183 : TI := ⟨2, 48, true, [.slice none 0 0, .slice none 0 0], [3, 1], .struct, 0, [(0, 1, false), (1, 1, false)], []⟩
theorem Y10w : TI.Ok Tryz.prog 183 T183 := have i : Tryz.prog.info? 183 = some Tryz.t183 := (by kernel_rfl); ⟨⟨_, _, i, rfl, rfl, rfl, rfl⟩, ⟨_, Tryz.underlying183, rfl, rfl, ⟨_, _, rfl, ⟨Tryz.t64, _, (by kernel_rfl : Tryz.prog.info? 64 = some Tryz.t64), by decide, Tryz.underlying64, rfl⟩, ⟨_, _, rfl, ⟨Tryz.t59, _, (by kernel_rfl : Tryz.prog.info? 59 = some Tryz.t59), by decide, Tryz.underlying59, rfl⟩, rfl⟩⟩, fun h => absurd rfl h⟩, ⟨rfl, rfl⟩, fun h => by cases h⟩
def T184 : TI := ⟨1, 8, false, [.nilFunc], [1], .other, 0, [], []⟩
theorem Y10v : TI.Ok Tryz.prog 184 T184 := okx (x := Tryz.t184) (by kernel_rfl) Tryz.underlying184
def T189 : TI := ⟨1, 8, false, [.nilFunc], [1], .other, 0, [], []⟩
theorem Y10u : TI.Ok Tryz.prog 189 T189 := okx (x := Tryz.t189) (by kernel_rfl) Tryz.underlying189
def T191 : TI := ⟨1, 8, false, [.nilFunc], [1], .other, 0, [], []⟩
theorem Y10t : TI.Ok Tryz.prog 191 T191 := okx (x := Tryz.t191) (by kernel_rfl) Tryz.underlying191
def T194 : TI := ⟨3, 40, true, [.slice none 0 0, .int .i64 0, .int .i64 0], [1, 1, 1], .struct, 0, [(0, 1, false), (1, 1, false), (2, 1, false)], []⟩
theorem Y10s : TI.Ok Tryz.prog 194 T194 := have i : Tryz.prog.info? 194 = some Tryz.t194 := (by kernel_rfl); ⟨⟨_, _, i, rfl, rfl, rfl, rfl⟩, ⟨_, Tryz.underlying194, rfl, rfl, ⟨_, _, rfl, ⟨Tryz.t59, _, (by kernel_rfl : Tryz.prog.info? 59 = some Tryz.t59), by decide, Tryz.underlying59, rfl⟩, ⟨_, _, rfl, ⟨Tryz.t3, _, (by kernel_rfl : Tryz.prog.info? 3 = some Tryz.t3), by decide, Tryz.underlying3, rfl⟩, ⟨_, _, rfl, ⟨Tryz.t3, _, (by kernel_rfl : Tryz.prog.info? 3 = some Tryz.t3), by decide, Tryz.underlying3, rfl⟩, rfl⟩⟩⟩, fun h => absurd rfl h⟩, ⟨rfl, rfl⟩, fun h => by cases h⟩
def T197 : TI := ⟨1, 8, false, [.nilFunc], [1], .other, 0, [], []⟩
theorem Y10r : TI.Ok Tryz.prog 197 T197 := okx (x := Tryz.t197) (by kernel_rfl) Tryz.underlying197
def T199 : TI := ⟨1, 8, false, [.nilFunc], [1], .other, 0, [], []⟩
theorem Y10q : TI.Ok Tryz.prog 199 T199 := okx (x := Tryz.t199) (by kernel_rfl) Tryz.underlying199
def T200 : TI := ⟨1, 8, false, [.nilFunc], [1], .other, 0, [], []⟩
theorem Y10p : TI.Ok Tryz.prog 200 T200 := okx (x := Tryz.t200) (by kernel_rfl) Tryz.underlying200
def T213 : TI := ⟨1, 4, false, [.int .u32 0], [1], (.int .u32), 0, [], []⟩
theorem Y10o : TI.Ok Tryz.prog 213 T213 := okx (x := Tryz.t213) (by kernel_rfl) Tryz.underlying213
def T218 : TI := ⟨3, 24, true, [.bool false, .int .u64 0, .int .u64 0], [1, 1, 1], .struct, 0, [(0, 1, false), (1, 1, false), (2, 1, false)], []⟩
theorem Y10n : TI.Ok Tryz.prog 218 T218 := have i : Tryz.prog.info? 218 = some Tryz.t218 := (by kernel_rfl); ⟨⟨_, _, i, rfl, rfl, rfl, rfl⟩, ⟨_, Tryz.underlying218, rfl, rfl, ⟨_, _, rfl, ⟨Tryz.t4, _, (by kernel_rfl : Tryz.prog.info? 4 = some Tryz.t4), by decide, Tryz.underlying4, rfl⟩, ⟨_, _, rfl, ⟨Tryz.t75, _, (by kernel_rfl : Tryz.prog.info? 75 = some Tryz.t75), by decide, Tryz.underlying75, rfl⟩, ⟨_, _, rfl, ⟨Tryz.t75, _, (by kernel_rfl : Tryz.prog.info? 75 = some Tryz.t75), by decide, Tryz.underlying75, rfl⟩, rfl⟩⟩⟩, fun h => absurd rfl h⟩, ⟨rfl, rfl⟩, fun h => by cases h⟩
def T222 : TI := ⟨24, 24, true, [.int .u8 0, .int .u8 0, .int .u8 0, .int .u8 0, .int .u8 0, .int .u8 0, .int .u8 0, .int .u8 0, .int .u8 0, .int .u8 0, .int .u8 0, .int .u8 0, .int .u8 0, .int .u8 0, .int .u8 0, .int .u8 0, .int .u8 0, .int .u8 0, .int .u8 0, .int .u8 0, .int .u8 0, .int .u8 0, .int .u8 0, .int .u8 0], [1, 1, 1, 1, 1, 1, 1, 1, 1, 1, 1, 1, 1, 1, 1, 1, 1, 1, 1, 1, 1, 1, 1, 1], (.arr 24 5), 1, [], []⟩
theorem Y10m : TI.Ok Tryz.prog 222 T222 := have i : Tryz.prog.info? 222 = some Tryz.t222 := (by kernel_rfl); ⟨⟨_, _, i, rfl, rfl, rfl, rfl⟩, ⟨_, Tryz.underlying222, rfl, rfl, ⟨Tryz.t5, (by kernel_rfl : Tryz.prog.info? 5 = some Tryz.t5), rfl, by decide⟩, fun h => absurd rfl h⟩, ⟨rfl, rfl⟩, fun h => by cases h⟩
def T229 : TI := ⟨20, 160, true, [.int .u64 0, .int .u64 0, .int .u64 0, .int .u64 0, .int .u64 0, .int .u64 0, .int .u64 0, .int .u64 0, .int .u64 0, .int .u64 0, .int .u64 0, .int .u64 0, .int .u64 0, .int .u64 0, .int .u64 0, .int .u64 0, .int .u64 0, .int .u64 0, .int .u64 0, .int .u64 0], [1, 1, 1, 1, 1, 1, 1, 1, 1, 1, 1, 1, 1, 1, 1, 1, 1, 1, 1, 1], (.arr 20 75), 1, [], []⟩
theorem Y10l : TI.Ok Tryz.prog 229 T229 := have i : Tryz.prog.info? 229 = some Tryz.t229 := (by kernel_rfl); ⟨⟨_, _, i, rfl, rfl, rfl, rfl⟩, ⟨_, Tryz.underlying229, rfl, rfl, ⟨Tryz.t75, (by kernel_rfl : Tryz.prog.info? 75 = some Tryz.t75), rfl, by decide⟩, fun h => absurd rfl h⟩, ⟨rfl, rfl⟩, fun h => by cases h⟩
def T233 : TI := ⟨32, 32, true, [.int .u8 0, .int .u8 0, .int .u8 0, .int .u8 0, .int .u8 0, .int .u8 0, .int .u8 0, .int .u8 0, .int .u8 0, .int .u8 0, .int .u8 0, .int .u8 0, .int .u8 0, .int .u8 0, .int .u8 0, .int .u8 0, .int .u8 0, .int .u8 0, .int .u8 0, .int .u8 0, .int .u8 0, .int .u8 0, .int .u8 0, .int .u8 0, .int .u8 0, .int .u8 0, .int .u8 0, .int .u8 0, .int .u8 0, .int .u8 0, .int .u8 0, .int .u8 0], [1, 1, 1, 1, 1, 1, 1, 1, 1, 1, 1, 1, 1, 1, 1, 1, 1, 1, 1, 1, 1, 1, 1, 1, 1, 1, 1, 1, 1, 1, 1, 1], (.arr 32 5), 1, [], []⟩
theorem Y10k : TI.Ok Tryz.prog 233 T233 := have i : Tryz.prog.info? 233 = some Tryz.t233 := (by kernel_rfl); ⟨⟨_, _, i, rfl, rfl, rfl, rfl⟩, ⟨_, Tryz.underlying233, rfl, rfl, ⟨Tryz.t5, (by kernel_rfl : Tryz.prog.info? 5 = some Tryz.t5), rfl, by decide⟩, fun h => absurd rfl h⟩, ⟨rfl, rfl⟩, fun h => by cases h⟩
def T234 : TI := ⟨64, 64, true, [.int .u8 0, .int .u8 0, .int .u8 0, .int .u8 0, .int .u8 0, .int .u8 0, .int .u8 0, .int .u8 0, .int .u8 0, .int .u8 0, .int .u8 0, .int .u8 0, .int .u8 0, .int .u8 0, .int .u8 0, .int .u8 0, .int .u8 0, .int .u8 0, .int .u8 0, .int .u8 0, .int .u8 0, .int .u8 0, .int .u8 0, .int .u8 0, .int .u8 0, .int .u8 0, .int .u8 0, .int .u8 0, .int .u8 0, .int .u8 0, .int .u8 0, .int .u8 0, .int .u8 0, .int .u8 0, .int .u8 0, .int .u8 0, .int .u8 0, .int .u8 0, .int .u8 0, .int .u8 0, .int .u8 0, .int .u8 0, .int .u8 0, .int .u8 0, .int .u8 0, .int .u8 0, .int .u8 0, .int .u8 0, .int .u8 0, .int .u8 0, .int .u8 0, .int .u8 0, .int .u8 0, .int .u8 0, .int .u8 0, .int .u8 0, .int .u8 0, .int .u8 0, .int .u8 0, .int .u8 0, .int .u8 0, .int .u8 0, .int .u8 0, .int .u8 0], [1, 1, 1, 1, 1, 1, 1, 1, 1, 1, 1, 1, 1, 1, 1, 1, 1, 1, 1, 1, 1, 1, 1, 1, 1, 1, 1, 1, 1, 1, 1, 1, 1, 1, 1, 1, 1, 1, 1, 1, 1, 1, 1, 1, 1, 1, 1, 1, 1, 1, 1, 1, 1, 1, 1, 1, 1, 1, 1, 1, 1, 1, 1, 1], (.arr 64 5), 1, [], []⟩
theorem Y10j : TI.Ok Tryz.prog 234 T234 := have i : Tryz.prog.info? 234 = some Tryz.t234 := (by kernel_rfl); ⟨⟨_, _, i, rfl, rfl, rfl, rfl⟩, ⟨_, Tryz.underlying234, rfl, rfl, ⟨Tryz.t5, (by kernel_rfl : Tryz.prog.info? 5 = some Tryz.t5), rfl, by decide⟩, fun h => absurd rfl h⟩, ⟨rfl, rfl⟩, fun h => by cases h⟩
def T235 : TI := ⟨1, 8, false, [.pointer none], [1], .other, 0, [], []⟩
theorem Y10i : TI.Ok Tryz.prog 235 T235 := okx (x := Tryz.t235) (by kernel_rfl) Tryz.underlying235
def tab : Tab
 | 1 => some T1
 | 2 => some T2
 | 3 => some T3
 | 4 => some T4
 | 5 => some T5
 | 6 => some T6
 | 8 => some T8
 | 9 => some T9
 | 10 => some T10
 | 11 => some T11
 | 12 => some T12
 | 14 => some T14
 | 15 => some T15
 | 16 => some T16
 | 17 => some T17
 | 19 => some T19
 | 20 => some T20
 | 22 => some T22
 | 23 => some T23
 | 25 => some T25
 | 28 => some T28
 | 30 => some T30
 | 33 => some T33
 | 35 => some T35
 | 36 => some T36
 | 37 => some T37
 | 48 => some T48
 | 51 => some T51
 | 53 => some T53
 | 59 => some T59
 | 63 => some T63
 | 64 => some T64
 | 69 => some T69
 | 75 => some T75
 | 77 => some T77
 | 79 => some T79
 | 81 => some T81
 | 84 => some T84
 | 96 => some T96
 | 97 => some T97
 | 98 => some T98
 | 100 => some T100
 | 102 => some T102
 | 113 => some T113
 | 115 => some T115
 | 119 => some T119
 | 120 => some T120
 | 121 => some T121
 | 126 => some T126
 | 128 => some T128
 | 132 => some T132
 | 137 => some T137
 | 138 => some T138
 | 139 => some T139
 | 141 => some T141
 | 149 => some T149
 | 153 => some T153
 | 157 => some T157
 | 166 => some T166
 | 172 => some T172
 | 175 => some T175
 | 179 => some T179
 | 181 => some T181
 | 183 => some T183
 | 184 => some T184
 | 189 => some T189
 | 191 => some T191
 | 194 => some T194
 | 197 => some T197
 | 199 => some T199
 | 200 => some T200
 | 213 => some T213
 | 218 => some T218
 | 222 => some T222
 | 229 => some T229
 | 233 => some T233
 | 234 => some T234
 | 235 => some T235
 | _ => none
theorem tab_ok : Tab.Ok Tryz.prog tab := fun t i h => by
 unfold tab at h
 split at h <;> first
  | (cases h; done)
  | (cases h; exact ok1)
  | (cases h; exact ok2)
  | (cases h; exact ok3)
  | (cases h; exact ok4)
  | (cases h; exact ok5)
  | (cases h; exact ok6)
  | (cases h; exact ok8)
  | (cases h; exact ok9)
  | (cases h; exact ok10)
  | (cases h; exact ok11)
  | (cases h; exact ok12)
  | (cases h; exact ok14)
  | (cases h; exact ok15)
  | (cases h; exact ok16)
  | (cases h; exact ok17)
  | (cases h; exact ok19)
  | (cases h; exact ok20)
  | (cases h; exact ok22)
  | (cases h; exact ok23)
  | (cases h; exact ok25)
  | (cases h; exact ok28)
  | (cases h; exact ok30)
  | (cases h; exact ok33)
  | (cases h; exact ok35)
  | (cases h; exact ok36)
  | (cases h; exact ok37)
  | (cases h; exact ok48)
  | (cases h; exact ok51)
  | (cases h; exact ok53)
  | (cases h; exact ok59)
  | (cases h; exact ok63)
  | (cases h; exact ok64)
  | (cases h; exact ok69)
  | (cases h; exact ok75)
  | (cases h; exact ok77)
  | (cases h; exact ok79)
  | (cases h; exact ok81)
  | (cases h; exact ok84)
  | (cases h; exact ok96)
  | (cases h; exact ok97)
  | (cases h; exact ok98)
  | (cases h; exact Y11i)
  | (cases h; exact Y11h)
  | (cases h; exact Y11g)
  | (cases h; exact Y11f)
  | (cases h; exact Y11e)
  | (cases h; exact Y11d)
  | (cases h; exact Y11c)
  | (cases h; exact Y11b)
  | (cases h; exact Y11a)
  | (cases h; exact Y119)
  | (cases h; exact Y118)
  | (cases h; exact Y117)
  | (cases h; exact Y116)
  | (cases h; exact Y115)
  | (cases h; exact Y114)
  | (cases h; exact Y113)
  | (cases h; exact Y112)
  | (cases h; exact Y111)
  | (cases h; exact Y110)
  | (cases h; exact Y10z)
  | (cases h; exact Y10y)
  | (cases h; exact Y10x)
  | (cases h; exact Y10w)
  | (cases h; exact Y10v)
  | (cases h; exact Y10u)
  | (cases h; exact Y10t)
  | (cases h; exact Y10s)
  | (cases h; exact Y10r)
  | (cases h; exact Y10q)
  | (cases h; exact Y10p)
  | (cases h; exact Y10o)
  | (cases h; exact Y10n)
  | (cases h; exact Y10m)
  | (cases h; exact Y10l)
  | (cases h; exact Y10k)
  | (cases h; exact Y10j)
  | (cases h; exact Y10i)
theorem bt : type_of% @T1.eq_1 ∧ type_of% @T2.eq_1 ∧ type_of% @T3.eq_1 ∧ type_of% @T4.eq_1 ∧ type_of% @T5.eq_1 ∧ type_of% @T6.eq_1 ∧ type_of% @T8.eq_1 ∧ type_of% @T9.eq_1 ∧ type_of% @T10.eq_1 ∧ type_of% @T11.eq_1 ∧ type_of% @T12.eq_1 ∧ type_of% @T14.eq_1 ∧ type_of% @T15.eq_1 ∧ type_of% @T16.eq_1 ∧ type_of% @T17.eq_1 ∧ type_of% @T19.eq_1 ∧ type_of% @T20.eq_1 ∧ type_of% @T22.eq_1 ∧ type_of% @T23.eq_1 ∧ type_of% @T25.eq_1 ∧ type_of% @T28.eq_1 ∧ type_of% @T30.eq_1 ∧ type_of% @T33.eq_1 ∧ type_of% @T35.eq_1 ∧ type_of% @T36.eq_1 ∧ type_of% @T37.eq_1 ∧ type_of% @T48.eq_1 ∧ type_of% @T51.eq_1 ∧ type_of% @T53.eq_1 ∧ type_of% @T59.eq_1 ∧ type_of% @T63.eq_1 ∧ type_of% @T64.eq_1 ∧ type_of% @T69.eq_1 ∧ type_of% @T75.eq_1 ∧ type_of% @T77.eq_1 ∧ type_of% @T79.eq_1 ∧ type_of% @T81.eq_1 ∧ type_of% @T84.eq_1 ∧ type_of% @T96.eq_1 ∧ type_of% @T97.eq_1 ∧ type_of% @T98.eq_1 ∧ type_of% @T100.eq_1 ∧ type_of% @T102.eq_1 ∧ type_of% @T113.eq_1 ∧ type_of% @T115.eq_1 ∧ type_of% @T119.eq_1 ∧ type_of% @T120.eq_1 ∧ type_of% @T121.eq_1 ∧ type_of% @T126.eq_1 ∧ type_of% @T128.eq_1 ∧ type_of% @T132.eq_1 ∧ type_of% @T137.eq_1 ∧ type_of% @T138.eq_1 ∧ type_of% @T139.eq_1 ∧ type_of% @T141.eq_1 ∧ type_of% @T149.eq_1 ∧ type_of% @T153.eq_1 ∧ type_of% @T157.eq_1 ∧ type_of% @T166.eq_1 ∧ type_of% @T172.eq_1 ∧ type_of% @T175.eq_1 ∧ type_of% @T179.eq_1 ∧ type_of% @T181.eq_1 ∧ type_of% @T183.eq_1 ∧ type_of% @T184.eq_1 ∧ type_of% @T189.eq_1 ∧ type_of% @T191.eq_1 ∧ type_of% @T194.eq_1 ∧ type_of% @T197.eq_1 ∧ type_of% @T199.eq_1 ∧ type_of% @T200.eq_1 ∧ type_of% @T213.eq_1 ∧ type_of% @T218.eq_1 ∧ type_of% @T222.eq_1 ∧ type_of% @T229.eq_1 ∧ type_of% @T233.eq_1 ∧ type_of% @T234.eq_1 ∧ type_of% @T235.eq_1 ∧ type_of% @tab.eq_1 ∧ type_of% @tab.eq_2 ∧ type_of% @tab.eq_3 ∧ type_of% @tab.eq_4 ∧ type_of% @tab.eq_5 ∧ type_of% @tab.eq_6 ∧ type_of% @tab.eq_7 ∧ type_of% @tab.eq_8 ∧ type_of% @tab.eq_9 ∧ type_of% @tab.eq_10 ∧ type_of% @tab.eq_11 ∧ type_of% @tab.eq_12 ∧ type_of% @tab.eq_13 ∧ type_of% @tab.eq_14 ∧ type_of% @tab.eq_15 ∧ type_of% @tab.eq_16 ∧ type_of% @tab.eq_17 ∧ type_of% @tab.eq_18 ∧ type_of% @tab.eq_19 ∧ type_of% @tab.eq_20 ∧ type_of% @tab.eq_21 ∧ type_of% @tab.eq_22 ∧ type_of% @tab.eq_23 ∧ type_of% @tab.eq_24 ∧ type_of% @tab.eq_25 ∧ type_of% @tab.eq_26 ∧ type_of% @tab.eq_27 ∧ type_of% @tab.eq_28 ∧ type_of% @tab.eq_29 ∧ type_of% @tab.eq_30 ∧ type_of% @tab.eq_31 ∧ type_of% @tab.eq_32 ∧ type_of% @tab.eq_33 ∧ type_of% @tab.eq_34 ∧ type_of% @tab.eq_35 ∧ type_of% @tab.eq_36 ∧ type_of% @tab.eq_37 ∧ type_of% @tab.eq_38 ∧ type_of% @tab.eq_39 ∧ type_of% @tab.eq_40 ∧ type_of% @tab.eq_41 ∧ type_of% @tab.eq_42 ∧ type_of% @tab.eq_43 ∧ type_of% @tab.eq_44 ∧ type_of% @tab.eq_45 ∧ type_of% @tab.eq_46 ∧ type_of% @tab.eq_47 ∧ type_of% @tab.eq_48 ∧ type_of% @tab.eq_49 ∧ type_of% @tab.eq_50 ∧ type_of% @tab.eq_51 ∧ type_of% @tab.eq_52 ∧ type_of% @tab.eq_53 ∧ type_of% @tab.eq_54 ∧ type_of% @tab.eq_55 ∧ type_of% @tab.eq_56 ∧ type_of% @tab.eq_57 ∧ type_of% @tab.eq_58 ∧ type_of% @tab.eq_59 ∧ type_of% @tab.eq_60 ∧ type_of% @tab.eq_61 ∧ type_of% @tab.eq_62 ∧ type_of% @tab.eq_63 ∧ type_of% @tab.eq_64 ∧ type_of% @tab.eq_65 ∧ type_of% @tab.eq_66 ∧ type_of% @tab.eq_67 ∧ type_of% @tab.eq_68 ∧ type_of% @tab.eq_69 ∧ type_of% @tab.eq_70 ∧ type_of% @tab.eq_71 ∧ type_of% @tab.eq_72 ∧ type_of% @tab.eq_73 ∧ type_of% @tab.eq_74 ∧ type_of% @tab.eq_75 ∧ type_of% @tab.eq_76 ∧ type_of% @tab.eq_77 ∧ type_of% @tab.eq_78 := ⟨@T1.eq_1, @T2.eq_1, @T3.eq_1, @T4.eq_1, @T5.eq_1, @T6.eq_1, @T8.eq_1, @T9.eq_1, @T10.eq_1, @T11.eq_1, @T12.eq_1, @T14.eq_1, @T15.eq_1, @T16.eq_1, @T17.eq_1, @T19.eq_1, @T20.eq_1, @T22.eq_1, @T23.eq_1, @T25.eq_1, @T28.eq_1, @T30.eq_1, @T33.eq_1, @T35.eq_1, @T36.eq_1, @T37.eq_1, @T48.eq_1, @T51.eq_1, @T53.eq_1, @T59.eq_1, @T63.eq_1, @T64.eq_1, @T69.eq_1, @T75.eq_1, @T77.eq_1, @T79.eq_1, @T81.eq_1, @T84.eq_1, @T96.eq_1, @T97.eq_1, @T98.eq_1, @T100.eq_1, @T102.eq_1, @T113.eq_1, @T115.eq_1, @T119.eq_1, @T120.eq_1, @T121.eq_1, @T126.eq_1, @T128.eq_1, @T132.eq_1, @T137.eq_1, @T138.eq_1, @T139.eq_1, @T141.eq_1, @T149.eq_1, @T153.eq_1, @T157.eq_1, @T166.eq_1, @T172.eq_1, @T175.eq_1, @T179.eq_1, @T181.eq_1, @T183.eq_1, @T184.eq_1, @T189.eq_1, @T191.eq_1, @T194.eq_1, @T197.eq_1, @T199.eq_1, @T200.eq_1, @T213.eq_1, @T218.eq_1, @T222.eq_1, @T229.eq_1, @T233.eq_1, @T234.eq_1, @T235.eq_1, @tab.eq_1, @tab.eq_2, @tab.eq_3, @tab.eq_4, @tab.eq_5, @tab.eq_6, @tab.eq_7, @tab.eq_8, @tab.eq_9, @tab.eq_10, @tab.eq_11, @tab.eq_12, @tab.eq_13, @tab.eq_14, @tab.eq_15, @tab.eq_16, @tab.eq_17, @tab.eq_18, @tab.eq_19, @tab.eq_20, @tab.eq_21, @tab.eq_22, @tab.eq_23, @tab.eq_24, @tab.eq_25, @tab.eq_26, @tab.eq_27, @tab.eq_28, @tab.eq_29, @tab.eq_30, @tab.eq_31, @tab.eq_32, @tab.eq_33, @tab.eq_34, @tab.eq_35, @tab.eq_36, @tab.eq_37, @tab.eq_38, @tab.eq_39, @tab.eq_40, @tab.eq_41, @tab.eq_42, @tab.eq_43, @tab.eq_44, @tab.eq_45, @tab.eq_46, @tab.eq_47, @tab.eq_48, @tab.eq_49, @tab.eq_50, @tab.eq_51, @tab.eq_52, @tab.eq_53, @tab.eq_54, @tab.eq_55, @tab.eq_56, @tab.eq_57, @tab.eq_58, @tab.eq_59, @tab.eq_60, @tab.eq_61, @tab.eq_62, @tab.eq_63, @tab.eq_64, @tab.eq_65, @tab.eq_66, @tab.eq_67, @tab.eq_68, @tab.eq_69, @tab.eq_70, @tab.eq_71, @tab.eq_72, @tab.eq_73, @tab.eq_74, @tab.eq_75, @tab.eq_76, @tab.eq_77, @tab.eq_78⟩
theorem Y06 : Tryz.prog.follows .mixedOrders = true := by kernel_rfl
end Go.Proofs.YtpbpafmgkdihlaaGreatDoor.T
