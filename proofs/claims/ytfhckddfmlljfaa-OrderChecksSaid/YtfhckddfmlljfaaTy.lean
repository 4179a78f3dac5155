/- Facts on the program's types. -/
import Derived.Test.YtfhckddfmlljfaaTp
import Derived.Test.YtfhckddfmlljfaaProg
import Derived.KernelRfl
namespace Go.Proofs.Ytfhckddfmlljfaa.TL
open Go
@[simp] theorem ag2 : isAg Try.prog 2 = false := by kernel_rfl
@[simp] theorem ag3 : isAg Try.prog 3 = false := by kernel_rfl
@[simp] theorem ag9 : isAg Try.prog 9 = false := by kernel_rfl
@[simp] theorem ag27 : isAg Try.prog 27 = true := by kernel_rfl
@[simp] theorem ag33 : isAg Try.prog 33 = true := by kernel_rfl
@[simp] theorem ag35 : isAg Try.prog 35 = true := by kernel_rfl
@[simp] theorem ag44 : isAg Try.prog 44 = true := by kernel_rfl
@[simp] theorem ag51 : isAg Try.prog 51 = false := by kernel_rfl
@[simp] theorem ag55 : isAg Try.prog 55 = false := by kernel_rfl
@[simp] theorem ag57 : isAg Try.prog 57 = true := by kernel_rfl
@[simp] theorem ag71 : isAg Try.prog 71 = true := by kernel_rfl
@[simp] theorem ag77 : isAg Try.prog 77 = true := by kernel_rfl
@[simp] theorem ag82 : isAg Try.prog 82 = false := by kernel_rfl
@[simp] theorem ag90 : isAg Try.prog 90 = false := by kernel_rfl
@[simp] theorem ag96 : isAg Try.prog 96 = true := by kernel_rfl
@[simp] theorem ag105 : isAg Try.prog 105 = false := by kernel_rfl
@[simp] theorem ar9 : arrOf Try.prog 9 = none := by kernel_rfl
@[simp] theorem ar22 : arrOf Try.prog 22 = none := by kernel_rfl
@[simp] theorem ar33 : arrOf Try.prog 33 = some (5, 1) := by kernel_rfl
@[simp] theorem ar40 : arrOf Try.prog 40 = none := by kernel_rfl
@[simp] theorem ar41 : arrOf Try.prog 41 = none := by kernel_rfl
@[simp] theorem ar49 : arrOf Try.prog 49 = none := by kernel_rfl
@[simp] theorem ar55 : arrOf Try.prog 55 = none := by kernel_rfl
@[simp] theorem ar82 : arrOf Try.prog 82 = none := by kernel_rfl
@[simp] theorem ar119 : arrOf Try.prog 119 = none := by kernel_rfl
@[simp] theorem ar128 : arrOf Try.prog 128 = none := by kernel_rfl
@[simp] theorem ar129 : arrOf Try.prog 129 = none := by kernel_rfl
@[simp] theorem are33 : arrEOf Try.prog 33 = some (5, 1, false) := by kernel_rfl
@[simp] theorem by5 : byOf Try.prog 5 = 1 := by kernel_rfl
@[simp] theorem by35 : byOf Try.prog 35 = 48 := by kernel_rfl
@[simp] theorem by44 : byOf Try.prog 44 = 32 := by kernel_rfl
@[simp] theorem by77 : byOf Try.prog 77 = 32 := by kernel_rfl
@[simp] theorem by96 : byOf Try.prog 96 = 48 := by kernel_rfl
@[simp] theorem el9 : elemOf Try.prog 9 = none := by kernel_rfl
@[simp] theorem el22 : elemOf Try.prog 22 = some 7 := by kernel_rfl
@[simp] theorem el33 : elemOf Try.prog 33 = none := by kernel_rfl
@[simp] theorem el40 : elemOf Try.prog 40 = some 4 := by kernel_rfl
@[simp] theorem el41 : elemOf Try.prog 41 = some 4 := by kernel_rfl
@[simp] theorem el49 : elemOf Try.prog 49 = some 4 := by kernel_rfl
@[simp] theorem el55 : elemOf Try.prog 55 = some 6 := by kernel_rfl
@[simp] theorem el82 : elemOf Try.prog 82 = some 6 := by kernel_rfl
@[simp] theorem el90 : elemOf Try.prog 90 = some 1 := by kernel_rfl
@[simp] theorem el119 : elemOf Try.prog 119 = some 1 := by kernel_rfl
@[simp] theorem el128 : elemOf Try.prog 128 = some 1 := by kernel_rfl
@[simp] theorem el129 : elemOf Try.prog 129 = some 1 := by kernel_rfl
@[simp] theorem sc2 : scal Try.prog 2 = some 0 := by kernel_rfl
@[simp] theorem sc3 : scal Try.prog 3 = some 0 := by kernel_rfl
@[simp] theorem sc4 : scal Try.prog 4 = some 2 := by kernel_rfl
@[simp] theorem sc5 : scal Try.prog 5 = some 0 := by kernel_rfl
@[simp] theorem sc9 : scal Try.prog 9 = some 1 := by kernel_rfl
@[simp] theorem pt24 : isPtr Try.prog 24 = true := by kernel_rfl
@[simp] theorem eq33 : eqOf Try.prog 33 = some [(0, 0), (1, 0), (2, 0), (3, 0), (4, 0)] := by kernel_rfl
@[simp] theorem eq35 : eqOf Try.prog 35 = some [(0, 0), (1, 0), (2, 0), (3, 0), (4, 0), (5, 0)] := by kernel_rfl
@[simp] theorem eq44 : eqOf Try.prog 44 = some [(0, 0), (1, 0), (2, 0), (3, 0)] := by kernel_rfl
@[simp] theorem sc51 : scal Try.prog 51 = some 0 := by kernel_rfl
@[simp] theorem eq77 : eqOf Try.prog 77 = some [(0, 0), (1, 0), (2, 0), (3, 0)] := by kernel_rfl
@[simp] theorem is82 : isSlice Try.prog 82 = true := by kernel_rfl
@[simp] theorem eq96 : eqOf Try.prog 96 = some [(0, 0), (1, 0), (2, 0), (3, 0), (4, 0), (5, 0)] := by kernel_rfl
@[simp] theorem sc105 : scal Try.prog 105 = some 0 := by kernel_rfl
@[simp] theorem fd27_0 : fieldOf Try.prog 27 0 = some (0, 1, false) := by kernel_rfl
@[simp] theorem fd27_1 : fieldOf Try.prog 27 1 = some (1, 1, false) := by kernel_rfl
@[simp] theorem fd27_2 : fieldOf Try.prog 27 2 = some (2, 1, false) := by kernel_rfl
@[simp] theorem fd27_3 : fieldOf Try.prog 27 3 = some (3, 1, false) := by kernel_rfl
@[simp] theorem fd27_4 : fieldOf Try.prog 27 4 = some (4, 1, false) := by kernel_rfl
@[simp] theorem fd27_5 : fieldOf Try.prog 27 5 = some (5, 1, false) := by kernel_rfl
@[simp] theorem fd27_6 : fieldOf Try.prog 27 6 = some (6, 1, false) := by kernel_rfl
@[simp] theorem fd35_0 : fieldOf Try.prog 35 0 = some (0, 1, false) := by kernel_rfl
@[simp] theorem fd35_1 : fieldOf Try.prog 35 1 = some (1, 5, true) := by kernel_rfl
@[simp] theorem fd44_0 : fieldOf Try.prog 44 0 = some (0, 1, false) := by kernel_rfl
@[simp] theorem fd44_1 : fieldOf Try.prog 44 1 = some (1, 1, false) := by kernel_rfl
@[simp] theorem fd44_2 : fieldOf Try.prog 44 2 = some (2, 1, false) := by kernel_rfl
@[simp] theorem fd44_3 : fieldOf Try.prog 44 3 = some (3, 1, false) := by kernel_rfl
@[simp] theorem fd57_0 : fieldOf Try.prog 57 0 = some (0, 1, false) := by kernel_rfl
@[simp] theorem fd57_1 : fieldOf Try.prog 57 1 = some (1, 1, false) := by kernel_rfl
@[simp] theorem fd71_0 : fieldOf Try.prog 71 0 = some (0, 1, false) := by kernel_rfl
@[simp] theorem fd71_1 : fieldOf Try.prog 71 1 = some (1, 1, false) := by kernel_rfl
@[simp] theorem fd77_0 : fieldOf Try.prog 77 0 = some (0, 1, false) := by kernel_rfl
@[simp] theorem fd77_1 : fieldOf Try.prog 77 1 = some (1, 1, false) := by kernel_rfl
@[simp] theorem fd77_2 : fieldOf Try.prog 77 2 = some (2, 1, false) := by kernel_rfl
@[simp] theorem fd77_3 : fieldOf Try.prog 77 3 = some (3, 1, false) := by kernel_rfl
@[simp] theorem fd84_0 : fieldOf Try.prog 84 0 = some (0, 1, false) := by kernel_rfl
@[simp] theorem fd84_1 : fieldOf Try.prog 84 1 = some (1, 1, false) := by kernel_rfl
@[simp] theorem fd92_0 : fieldOf Try.prog 92 0 = some (0, 1, false) := by kernel_rfl
@[simp] theorem fd96_0 : fieldOf Try.prog 96 0 = some (0, 1, false) := by kernel_rfl
@[simp] theorem fd96_1 : fieldOf Try.prog 96 1 = some (1, 5, true) := by kernel_rfl
@[simp] theorem fd108_0 : fieldOf Try.prog 108 0 = some (0, 1, false) := by kernel_rfl
@[simp] theorem fd108_1 : fieldOf Try.prog 108 1 = some (1, 1, false) := by kernel_rfl
@[simp] theorem hu2 : hasU Try.prog 2 = true := by kernel_rfl
@[simp] theorem hu3 : hasU Try.prog 3 = true := by kernel_rfl
@[simp] theorem hu5 : hasU Try.prog 5 = true := by kernel_rfl
@[simp] theorem hu9 : hasU Try.prog 9 = true := by kernel_rfl
@[simp] theorem hu27 : hasU Try.prog 27 = true := by kernel_rfl
@[simp] theorem hu33 : hasU Try.prog 33 = true := by kernel_rfl
@[simp] theorem hu35 : hasU Try.prog 35 = true := by kernel_rfl
@[simp] theorem hu44 : hasU Try.prog 44 = true := by kernel_rfl
@[simp] theorem hu51 : hasU Try.prog 51 = true := by kernel_rfl
@[simp] theorem hu55 : hasU Try.prog 55 = true := by kernel_rfl
@[simp] theorem hu57 : hasU Try.prog 57 = true := by kernel_rfl
@[simp] theorem hu71 : hasU Try.prog 71 = true := by kernel_rfl
@[simp] theorem hu77 : hasU Try.prog 77 = true := by kernel_rfl
@[simp] theorem hu82 : hasU Try.prog 82 = true := by kernel_rfl
@[simp] theorem hu90 : hasU Try.prog 90 = true := by kernel_rfl
@[simp] theorem hu96 : hasU Try.prog 96 = true := by kernel_rfl
@[simp] theorem hu105 : hasU Try.prog 105 = true := by kernel_rfl
@[simp] theorem hu123 : hasU Try.prog 123 = true := by kernel_rfl
@[simp] theorem kd2 : kdOf Try.prog 2 = .int .i64 := by kernel_rfl
@[simp] theorem kd3 : kdOf Try.prog 3 = .int .i64 := by kernel_rfl
@[simp] theorem kd5 : kdOf Try.prog 5 = .int .u8 := by kernel_rfl
@[simp] theorem kd9 : kdOf Try.prog 9 = .str := by kernel_rfl
@[simp] theorem kd22 : kdOf Try.prog 22 = .other := by kernel_rfl
@[simp] theorem kd33 : kdOf Try.prog 33 = .other := by kernel_rfl
@[simp] theorem kd40 : kdOf Try.prog 40 = .other := by kernel_rfl
@[simp] theorem kd41 : kdOf Try.prog 41 = .other := by kernel_rfl
@[simp] theorem kd49 : kdOf Try.prog 49 = .other := by kernel_rfl
@[simp] theorem kd55 : kdOf Try.prog 55 = .other := by kernel_rfl
@[simp] theorem kd82 : kdOf Try.prog 82 = .other := by kernel_rfl
@[simp] theorem kd90 : kdOf Try.prog 90 = .bytes := by kernel_rfl
@[simp] theorem kd105 : kdOf Try.prog 105 = .int .u64 := by kernel_rfl
@[simp] theorem kd119 : kdOf Try.prog 119 = .other := by kernel_rfl
@[simp] theorem kd123 : kdOf Try.prog 123 = .int .u64 := by kernel_rfl
@[simp] theorem kd128 : kdOf Try.prog 128 = .other := by kernel_rfl
@[simp] theorem kd129 : kdOf Try.prog 129 = .other := by kernel_rfl
@[simp] theorem plc33 : plcOf Try.prog 33 = some [(0, 1), (1, 1), (2, 1), (3, 1), (4, 1)] := by kernel_rfl
@[simp] theorem plc35 : plcOf Try.prog 35 = some [(0, 1), (1, 5)] := by kernel_rfl
@[simp] theorem plc44 : plcOf Try.prog 44 = some [(0, 1), (1, 1), (2, 1), (3, 1)] := by kernel_rfl
@[simp] theorem plc57 : plcOf Try.prog 57 = some [(0, 1), (1, 1)] := by kernel_rfl
@[simp] theorem plc71 : plcOf Try.prog 71 = some [(0, 1), (1, 1)] := by kernel_rfl
@[simp] theorem plc84 : plcOf Try.prog 84 = some [(0, 1), (1, 1)] := by kernel_rfl
@[simp] theorem plc96 : plcOf Try.prog 96 = some [(0, 1), (1, 5)] := by kernel_rfl
@[simp] theorem plc108 : plcOf Try.prog 108 = some [(0, 1), (1, 1)] := by kernel_rfl
@[simp] theorem sz2 : szOf Try.prog 2 = 1 := by kernel_rfl
@[simp] theorem sz3 : szOf Try.prog 3 = 1 := by kernel_rfl
@[simp] theorem sz9 : szOf Try.prog 9 = 1 := by kernel_rfl
@[simp] theorem sz27 : szOf Try.prog 27 = 7 := by kernel_rfl
@[simp] theorem sz33 : szOf Try.prog 33 = 5 := by kernel_rfl
@[simp] theorem sz35 : szOf Try.prog 35 = 6 := by kernel_rfl
@[simp] theorem sz44 : szOf Try.prog 44 = 4 := by kernel_rfl
@[simp] theorem sz51 : szOf Try.prog 51 = 1 := by kernel_rfl
@[simp] theorem sz55 : szOf Try.prog 55 = 1 := by kernel_rfl
@[simp] theorem sz57 : szOf Try.prog 57 = 2 := by kernel_rfl
@[simp] theorem sz71 : szOf Try.prog 71 = 2 := by kernel_rfl
@[simp] theorem sz77 : szOf Try.prog 77 = 4 := by kernel_rfl
@[simp] theorem sz82 : szOf Try.prog 82 = 1 := by kernel_rfl
@[simp] theorem sz90 : szOf Try.prog 90 = 1 := by kernel_rfl
@[simp] theorem sz96 : szOf Try.prog 96 = 6 := by kernel_rfl
@[simp] theorem sz105 : szOf Try.prog 105 = 1 := by kernel_rfl
@[simp] theorem un40 : Try.prog.underlying 40 = some (.slice 44) := by kernel_rfl
@[simp] theorem un41 : Try.prog.underlying 41 = some (.slice 44) := by kernel_rfl
@[simp] theorem un49 : Try.prog.underlying 49 = some (.slice 77) := by kernel_rfl
@[simp] theorem un55 : Try.prog.underlying 55 = some (.slice 96) := by kernel_rfl
@[simp] theorem un82 : Try.prog.underlying 82 = some (.slice 35) := by kernel_rfl
@[simp] theorem un90 : Try.prog.underlying 90 = some (.slice 5) := by kernel_rfl
@[simp] theorem zero33 : zeroOf Try.prog 33 = some [.int .i64 0, .int .i64 0, .int .i64 0, .int .i64 0, .int .i64 0] := by kernel_rfl
@[simp] theorem zero35 : zeroOf Try.prog 35 = some [.int .i64 0, .int .i64 0, .int .i64 0, .int .i64 0, .int .i64 0, .int .i64 0] := by kernel_rfl
@[simp] theorem zero44 : zeroOf Try.prog 44 = some [.int .i64 0, .int .i64 0, .int .i64 0, .int .i64 0] := by kernel_rfl
@[simp] theorem zero57 : zeroOf Try.prog 57 = some [.slice none 0 0, .int .i64 0] := by kernel_rfl
@[simp] theorem zero71 : zeroOf Try.prog 71 = some [.string (bs []), .int .i64 0] := by kernel_rfl
@[simp] theorem zero77 : zeroOf Try.prog 77 = some [.int .i64 0, .int .i64 0, .int .i64 0, .int .i64 0] := by kernel_rfl
@[simp] theorem zero84 : zeroOf Try.prog 84 = some [.slice none 0 0, .int .i64 0] := by kernel_rfl
@[simp] theorem zero92 : zeroOf Try.prog 92 = some [.slice none 0 0] := by kernel_rfl
@[simp] theorem zero96 : zeroOf Try.prog 96 = some [.int .i64 0, .int .i64 0, .int .i64 0, .int .i64 0, .int .i64 0, .int .i64 0] := by kernel_rfl
@[simp] theorem zero108 : zeroOf Try.prog 108 = some [.string (bs []), .int .i64 0] := by kernel_rfl
end Go.Proofs.Ytfhckddfmlljfaa.TL
