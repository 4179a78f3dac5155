/- Facts on the program's types. -/
import Derived.Test.YtekmhdiajjfgfaaDoorTp
import Derived.Test.YtekmhdiajjfgfaaDoorProg
import Derived.KernelRfl
namespace Go.Proofs.YtekmhdiajjfgfaaDoor.TL
open Go
@[simp] theorem ag3 : isAg Tryd.prog 3 = false := by kernel_rfl
@[simp] theorem ag5 : isAg Tryd.prog 5 = false := by kernel_rfl
@[simp] theorem ag9 : isAg Tryd.prog 9 = false := by kernel_rfl
@[simp] theorem ag22 : isAg Tryd.prog 22 = false := by kernel_rfl
@[simp] theorem ag25 : isAg Tryd.prog 25 = false := by kernel_rfl
@[simp] theorem ag27 : isAg Tryd.prog 27 = true := by kernel_rfl
@[simp] theorem ag30 : isAg Tryd.prog 30 = true := by kernel_rfl
@[simp] theorem ag35 : isAg Tryd.prog 35 = true := by kernel_rfl
@[simp] theorem ag36 : isAg Tryd.prog 36 = false := by kernel_rfl
@[simp] theorem ag42 : isAg Tryd.prog 42 = true := by kernel_rfl
@[simp] theorem ag56 : isAg Tryd.prog 56 = true := by kernel_rfl
@[simp] theorem ag65 : isAg Tryd.prog 65 = false := by kernel_rfl
@[simp] theorem ag90 : isAg Tryd.prog 90 = false := by kernel_rfl
@[simp] theorem ag99 : isAg Tryd.prog 99 = true := by kernel_rfl
@[simp] theorem ar9 : arrOf Tryd.prog 9 = none := by kernel_rfl
@[simp] theorem ar22 : arrOf Tryd.prog 22 = none := by kernel_rfl
@[simp] theorem ar23 : arrOf Tryd.prog 23 = none := by kernel_rfl
@[simp] theorem ar43 : arrOf Tryd.prog 43 = none := by kernel_rfl
@[simp] theorem ar98 : arrOf Tryd.prog 98 = none := by kernel_rfl
@[simp] theorem ar99 : arrOf Tryd.prog 99 = some (32, 1) := by kernel_rfl
@[simp] theorem by3 : byOf Tryd.prog 3 = 8 := by kernel_rfl
@[simp] theorem by5 : byOf Tryd.prog 5 = 1 := by kernel_rfl
@[simp] theorem by35 : byOf Tryd.prog 35 = 40 := by kernel_rfl
@[simp] theorem by42 : byOf Tryd.prog 42 = 40 := by kernel_rfl
@[simp] theorem el9 : elemOf Tryd.prog 9 = none := by kernel_rfl
@[simp] theorem el22 : elemOf Tryd.prog 22 = some 1 := by kernel_rfl
@[simp] theorem el23 : elemOf Tryd.prog 23 = some 3 := by kernel_rfl
@[simp] theorem el43 : elemOf Tryd.prog 43 = some 3 := by kernel_rfl
@[simp] theorem el65 : elemOf Tryd.prog 65 = some 1 := by kernel_rfl
@[simp] theorem el98 : elemOf Tryd.prog 98 = some 1 := by kernel_rfl
@[simp] theorem el99 : elemOf Tryd.prog 99 = none := by kernel_rfl
@[simp] theorem sc3 : scal Tryd.prog 3 = some 0 := by kernel_rfl
@[simp] theorem sc4 : scal Tryd.prog 4 = some 2 := by kernel_rfl
@[simp] theorem sc5 : scal Tryd.prog 5 = some 0 := by kernel_rfl
@[simp] theorem sc9 : scal Tryd.prog 9 = some 1 := by kernel_rfl
@[simp] theorem sc25 : scal Tryd.prog 25 = some 0 := by kernel_rfl
@[simp] theorem eq27 : eqOf Tryd.prog 27 = some [(0, 0), (1, 0)] := by kernel_rfl
@[simp] theorem sc36 : scal Tryd.prog 36 = some 0 := by kernel_rfl
@[simp] theorem fd27_0 : fieldOf Tryd.prog 27 0 = some (0, 1, false) := by kernel_rfl
@[simp] theorem fd27_1 : fieldOf Tryd.prog 27 1 = some (1, 1, false) := by kernel_rfl
@[simp] theorem fd30_0 : fieldOf Tryd.prog 30 0 = some (0, 1, false) := by kernel_rfl
@[simp] theorem fd30_1 : fieldOf Tryd.prog 30 1 = some (1, 1, false) := by kernel_rfl
@[simp] theorem fd35_0 : fieldOf Tryd.prog 35 0 = some (0, 1, false) := by kernel_rfl
@[simp] theorem fd35_1 : fieldOf Tryd.prog 35 1 = some (1, 1, false) := by kernel_rfl
@[simp] theorem fd35_2 : fieldOf Tryd.prog 35 2 = some (2, 1, false) := by kernel_rfl
@[simp] theorem fd42_0 : fieldOf Tryd.prog 42 0 = some (0, 1, false) := by kernel_rfl
@[simp] theorem fd42_1 : fieldOf Tryd.prog 42 1 = some (1, 1, false) := by kernel_rfl
@[simp] theorem fd42_2 : fieldOf Tryd.prog 42 2 = some (2, 1, false) := by kernel_rfl
@[simp] theorem fd56_0 : fieldOf Tryd.prog 56 0 = some (0, 1, false) := by kernel_rfl
@[simp] theorem fd56_1 : fieldOf Tryd.prog 56 1 = some (1, 1, false) := by kernel_rfl
@[simp] theorem fd67_0 : fieldOf Tryd.prog 67 0 = some (0, 1, false) := by kernel_rfl
@[simp] theorem fd82_0 : fieldOf Tryd.prog 82 0 = some (0, 1, false) := by kernel_rfl
@[simp] theorem fd82_1 : fieldOf Tryd.prog 82 1 = some (1, 1, false) := by kernel_rfl
@[simp] theorem hu3 : hasU Tryd.prog 3 = true := by kernel_rfl
@[simp] theorem hu5 : hasU Tryd.prog 5 = true := by kernel_rfl
@[simp] theorem hu9 : hasU Tryd.prog 9 = true := by kernel_rfl
@[simp] theorem hu22 : hasU Tryd.prog 22 = true := by kernel_rfl
@[simp] theorem hu25 : hasU Tryd.prog 25 = true := by kernel_rfl
@[simp] theorem hu27 : hasU Tryd.prog 27 = true := by kernel_rfl
@[simp] theorem hu30 : hasU Tryd.prog 30 = true := by kernel_rfl
@[simp] theorem hu35 : hasU Tryd.prog 35 = true := by kernel_rfl
@[simp] theorem hu36 : hasU Tryd.prog 36 = true := by kernel_rfl
@[simp] theorem hu42 : hasU Tryd.prog 42 = true := by kernel_rfl
@[simp] theorem hu56 : hasU Tryd.prog 56 = true := by kernel_rfl
@[simp] theorem hu65 : hasU Tryd.prog 65 = true := by kernel_rfl
@[simp] theorem hu90 : hasU Tryd.prog 90 = true := by kernel_rfl
@[simp] theorem hu99 : hasU Tryd.prog 99 = true := by kernel_rfl
@[simp] theorem kd3 : kdOf Tryd.prog 3 = .int .i64 := by kernel_rfl
@[simp] theorem kd5 : kdOf Tryd.prog 5 = .int .u8 := by kernel_rfl
@[simp] theorem kd9 : kdOf Tryd.prog 9 = .str := by kernel_rfl
@[simp] theorem kd22 : kdOf Tryd.prog 22 = .other := by kernel_rfl
@[simp] theorem kd23 : kdOf Tryd.prog 23 = .other := by kernel_rfl
@[simp] theorem kd25 : kdOf Tryd.prog 25 = .int .u32 := by kernel_rfl
@[simp] theorem kd43 : kdOf Tryd.prog 43 = .other := by kernel_rfl
@[simp] theorem kd65 : kdOf Tryd.prog 65 = .bytes := by kernel_rfl
@[simp] theorem kd90 : kdOf Tryd.prog 90 = .int .u64 := by kernel_rfl
@[simp] theorem kd98 : kdOf Tryd.prog 98 = .other := by kernel_rfl
@[simp] theorem plc27 : plcOf Tryd.prog 27 = some [(0, 1), (1, 1)] := by kernel_rfl
@[simp] theorem plc30 : plcOf Tryd.prog 30 = some [(0, 1), (1, 1)] := by kernel_rfl
@[simp] theorem plc35 : plcOf Tryd.prog 35 = some [(0, 1), (1, 1), (2, 1)] := by kernel_rfl
@[simp] theorem plc42 : plcOf Tryd.prog 42 = some [(0, 1), (1, 1), (2, 1)] := by kernel_rfl
@[simp] theorem plc56 : plcOf Tryd.prog 56 = some [(0, 1), (1, 1)] := by kernel_rfl
@[simp] theorem plc82 : plcOf Tryd.prog 82 = some [(0, 1), (1, 1)] := by kernel_rfl
@[simp] theorem plc99 : plcOf Tryd.prog 99 = some [(0, 1), (1, 1), (2, 1), (3, 1), (4, 1), (5, 1), (6, 1), (7, 1), (8, 1), (9, 1), (10, 1), (11, 1), (12, 1), (13, 1), (14, 1), (15, 1), (16, 1), (17, 1), (18, 1), (19, 1), (20, 1), (21, 1), (22, 1), (23, 1), (24, 1), (25, 1), (26, 1), (27, 1), (28, 1), (29, 1), (30, 1), (31, 1)] := by kernel_rfl
@[simp] theorem sz3 : szOf Tryd.prog 3 = 1 := by kernel_rfl
@[simp] theorem sz5 : szOf Tryd.prog 5 = 1 := by kernel_rfl
@[simp] theorem sz9 : szOf Tryd.prog 9 = 1 := by kernel_rfl
@[simp] theorem sz22 : szOf Tryd.prog 22 = 1 := by kernel_rfl
@[simp] theorem sz25 : szOf Tryd.prog 25 = 1 := by kernel_rfl
@[simp] theorem sz27 : szOf Tryd.prog 27 = 2 := by kernel_rfl
@[simp] theorem sz30 : szOf Tryd.prog 30 = 2 := by kernel_rfl
@[simp] theorem sz35 : szOf Tryd.prog 35 = 3 := by kernel_rfl
@[simp] theorem sz36 : szOf Tryd.prog 36 = 1 := by kernel_rfl
@[simp] theorem sz42 : szOf Tryd.prog 42 = 3 := by kernel_rfl
@[simp] theorem sz56 : szOf Tryd.prog 56 = 2 := by kernel_rfl
@[simp] theorem sz65 : szOf Tryd.prog 65 = 1 := by kernel_rfl
@[simp] theorem sz90 : szOf Tryd.prog 90 = 1 := by kernel_rfl
@[simp] theorem sz99 : szOf Tryd.prog 99 = 32 := by kernel_rfl
@[simp] theorem un22 : Tryd.prog.underlying 22 = some (.slice 3) := by kernel_rfl
@[simp] theorem un23 : Tryd.prog.underlying 23 = some (.slice 35) := by kernel_rfl
@[simp] theorem un43 : Tryd.prog.underlying 43 = some (.slice 42) := by kernel_rfl
@[simp] theorem un65 : Tryd.prog.underlying 65 = some (.slice 5) := by kernel_rfl
@[simp] theorem zero27 : zeroOf Tryd.prog 27 = some [.int .u32 0, .int .i64 0] := by kernel_rfl
@[simp] theorem zero30 : zeroOf Tryd.prog 30 = some [.slice none 0 0, .int .i64 0] := by kernel_rfl
@[simp] theorem zero35 : zeroOf Tryd.prog 35 = some [.int .i64 0, .int .i64 0, .slice none 0 0] := by kernel_rfl
@[simp] theorem zero42 : zeroOf Tryd.prog 42 = some [.int .i64 0, .int .i64 0, .slice none 0 0] := by kernel_rfl
@[simp] theorem zero56 : zeroOf Tryd.prog 56 = some [.string (bs []), .int .i64 0] := by kernel_rfl
@[simp] theorem zero67 : zeroOf Tryd.prog 67 = some [.slice none 0 0] := by kernel_rfl
@[simp] theorem zero82 : zeroOf Tryd.prog 82 = some [.string (bs []), .int .i64 0] := by kernel_rfl
@[simp] theorem zero99 : zeroOf Tryd.prog 99 = some [.int .u8 0, .int .u8 0, .int .u8 0, .int .u8 0, .int .u8 0, .int .u8 0, .int .u8 0, .int .u8 0, .int .u8 0, .int .u8 0, .int .u8 0, .int .u8 0, .int .u8 0, .int .u8 0, .int .u8 0, .int .u8 0, .int .u8 0, .int .u8 0, .int .u8 0, .int .u8 0, .int .u8 0, .int .u8 0, .int .u8 0, .int .u8 0, .int .u8 0, .int .u8 0, .int .u8 0, .int .u8 0, .int .u8 0, .int .u8 0, .int .u8 0, .int .u8 0] := by kernel_rfl
end Go.Proofs.YtekmhdiajjfgfaaDoor.TL
