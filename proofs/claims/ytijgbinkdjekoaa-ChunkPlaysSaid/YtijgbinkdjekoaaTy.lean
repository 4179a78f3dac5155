/- Facts on the program's types. -/
import Derived.Test.YtijgbinkdjekoaaTD
import Derived.Test.YtijgbinkdjekoaaProg
import Derived.KernelRfl
namespace Go.Proofs.Ytijgbinkdjekoaa.TL
open Go
@[simp] theorem ag3 : isAg Try.prog 3 = false := by kernel_rfl
@[simp] theorem ag4 : isAg Try.prog 4 = false := by kernel_rfl
@[simp] theorem ag5 : isAg Try.prog 5 = false := by kernel_rfl
@[simp] theorem ag9 : isAg Try.prog 9 = false := by kernel_rfl
@[simp] theorem ag24 : isAg Try.prog 24 = false := by kernel_rfl
@[simp] theorem ag26 : isAg Try.prog 26 = false := by kernel_rfl
@[simp] theorem ag28 : isAg Try.prog 28 = false := by kernel_rfl
@[simp] theorem ag30 : isAg Try.prog 30 = true := by kernel_rfl
@[simp] theorem ag31 : isAg Try.prog 31 = false := by kernel_rfl
@[simp] theorem ag45 : isAg Try.prog 45 = true := by kernel_rfl
@[simp] theorem ag48 : isAg Try.prog 48 = true := by kernel_rfl
@[simp] theorem ag58 : isAg Try.prog 58 = false := by kernel_rfl
@[simp] theorem ag63 : isAg Try.prog 63 = false := by kernel_rfl
@[simp] theorem ag74 : isAg Try.prog 74 = true := by kernel_rfl
@[simp] theorem ag79 : isAg Try.prog 79 = false := by kernel_rfl
@[simp] theorem ag81 : isAg Try.prog 81 = true := by kernel_rfl
@[simp] theorem ar9 : arrOf Try.prog 9 = none := by kernel_rfl
@[simp] theorem ar26 : arrOf Try.prog 26 = none := by kernel_rfl
@[simp] theorem ar38 : arrOf Try.prog 38 = none := by kernel_rfl
@[simp] theorem ar39 : arrOf Try.prog 39 = none := by kernel_rfl
@[simp] theorem ar40 : arrOf Try.prog 40 = none := by kernel_rfl
@[simp] theorem ar42 : arrOf Try.prog 42 = none := by kernel_rfl
@[simp] theorem ar53 : arrOf Try.prog 53 = none := by kernel_rfl
@[simp] theorem ar63 : arrOf Try.prog 63 = none := by kernel_rfl
@[simp] theorem ar107 : arrOf Try.prog 107 = none := by kernel_rfl
@[simp] theorem by3 : byOf Try.prog 3 = 8 := by kernel_rfl
@[simp] theorem by5 : byOf Try.prog 5 = 1 := by kernel_rfl
@[simp] theorem by26 : byOf Try.prog 26 = 24 := by kernel_rfl
@[simp] theorem by30 : byOf Try.prog 30 = 48 := by kernel_rfl
@[simp] theorem by48 : byOf Try.prog 48 = 48 := by kernel_rfl
@[simp] theorem el9 : elemOf Try.prog 9 = none := by kernel_rfl
@[simp] theorem el26 : elemOf Try.prog 26 = some 5 := by kernel_rfl
@[simp] theorem el38 : elemOf Try.prog 38 = some 1 := by kernel_rfl
@[simp] theorem el39 : elemOf Try.prog 39 = some 8 := by kernel_rfl
@[simp] theorem el40 : elemOf Try.prog 40 = some 1 := by kernel_rfl
@[simp] theorem el42 : elemOf Try.prog 42 = some 5 := by kernel_rfl
@[simp] theorem el53 : elemOf Try.prog 53 = some 1 := by kernel_rfl
@[simp] theorem el63 : elemOf Try.prog 63 = some 1 := by kernel_rfl
@[simp] theorem el107 : elemOf Try.prog 107 = some 1 := by kernel_rfl
@[simp] theorem sc3 : scal Try.prog 3 = some 0 := by kernel_rfl
@[simp] theorem sc4 : scal Try.prog 4 = some 2 := by kernel_rfl
@[simp] theorem sc5 : scal Try.prog 5 = some 0 := by kernel_rfl
@[simp] theorem sc9 : scal Try.prog 9 = some 1 := by kernel_rfl
@[simp] theorem pt24 : isPtr Try.prog 24 = true := by kernel_rfl
@[simp] theorem sc28 : scal Try.prog 28 = some 0 := by kernel_rfl
@[simp] theorem eq30 : eqOf Try.prog 30 = some [(0, 0), (1, 0), (2, 0), (3, 0), (4, 1)] := by kernel_rfl
@[simp] theorem sc31 : scal Try.prog 31 = some 0 := by kernel_rfl
@[simp] theorem eq48 : eqOf Try.prog 48 = some [(0, 0), (1, 0), (2, 0), (3, 0), (4, 1)] := by kernel_rfl
@[simp] theorem eq81 : eqOf Try.prog 81 = some [(0, 0), (1, 0), (2, 0)] := by kernel_rfl
@[simp] theorem fd30_0 : fieldOf Try.prog 30 0 = some (0, 1, false) := by kernel_rfl
@[simp] theorem fd30_1 : fieldOf Try.prog 30 1 = some (1, 1, false) := by kernel_rfl
@[simp] theorem fd30_2 : fieldOf Try.prog 30 2 = some (2, 1, false) := by kernel_rfl
@[simp] theorem fd30_3 : fieldOf Try.prog 30 3 = some (3, 1, false) := by kernel_rfl
@[simp] theorem fd30_4 : fieldOf Try.prog 30 4 = some (4, 1, false) := by kernel_rfl
@[simp] theorem fd45_0 : fieldOf Try.prog 45 0 = some (0, 1, false) := by kernel_rfl
@[simp] theorem fd45_1 : fieldOf Try.prog 45 1 = some (1, 1, false) := by kernel_rfl
@[simp] theorem fd45_2 : fieldOf Try.prog 45 2 = some (2, 1, false) := by kernel_rfl
@[simp] theorem fd45_3 : fieldOf Try.prog 45 3 = some (3, 5, true) := by kernel_rfl
@[simp] theorem fd48_0 : fieldOf Try.prog 48 0 = some (0, 1, false) := by kernel_rfl
@[simp] theorem fd48_1 : fieldOf Try.prog 48 1 = some (1, 1, false) := by kernel_rfl
@[simp] theorem fd48_2 : fieldOf Try.prog 48 2 = some (2, 1, false) := by kernel_rfl
@[simp] theorem fd48_3 : fieldOf Try.prog 48 3 = some (3, 1, false) := by kernel_rfl
@[simp] theorem fd48_4 : fieldOf Try.prog 48 4 = some (4, 1, false) := by kernel_rfl
@[simp] theorem fd65_0 : fieldOf Try.prog 65 0 = some (0, 1, false) := by kernel_rfl
@[simp] theorem fd74_0 : fieldOf Try.prog 74 0 = some (0, 1, false) := by kernel_rfl
@[simp] theorem fd74_1 : fieldOf Try.prog 74 1 = some (1, 1, false) := by kernel_rfl
@[simp] theorem fd81_0 : fieldOf Try.prog 81 0 = some (0, 1, false) := by kernel_rfl
@[simp] theorem fd81_1 : fieldOf Try.prog 81 1 = some (1, 1, false) := by kernel_rfl
@[simp] theorem fd81_2 : fieldOf Try.prog 81 2 = some (2, 1, false) := by kernel_rfl
@[simp] theorem fd83_0 : fieldOf Try.prog 83 0 = some (0, 3, true) := by kernel_rfl
@[simp] theorem fd83_1 : fieldOf Try.prog 83 1 = some (3, 1, false) := by kernel_rfl
@[simp] theorem fd83_2 : fieldOf Try.prog 83 2 = some (4, 1, false) := by kernel_rfl
@[simp] theorem fd92_0 : fieldOf Try.prog 92 0 = some (0, 1, false) := by kernel_rfl
@[simp] theorem fd92_1 : fieldOf Try.prog 92 1 = some (1, 1, false) := by kernel_rfl
@[simp] theorem hu3 : hasU Try.prog 3 = true := by kernel_rfl
@[simp] theorem hu4 : hasU Try.prog 4 = true := by kernel_rfl
@[simp] theorem hu5 : hasU Try.prog 5 = true := by kernel_rfl
@[simp] theorem hu9 : hasU Try.prog 9 = true := by kernel_rfl
@[simp] theorem hu24 : hasU Try.prog 24 = true := by kernel_rfl
@[simp] theorem hu26 : hasU Try.prog 26 = true := by kernel_rfl
@[simp] theorem hu28 : hasU Try.prog 28 = true := by kernel_rfl
@[simp] theorem hu30 : hasU Try.prog 30 = true := by kernel_rfl
@[simp] theorem hu31 : hasU Try.prog 31 = true := by kernel_rfl
@[simp] theorem hu45 : hasU Try.prog 45 = true := by kernel_rfl
@[simp] theorem hu48 : hasU Try.prog 48 = true := by kernel_rfl
@[simp] theorem hu58 : hasU Try.prog 58 = true := by kernel_rfl
@[simp] theorem hu63 : hasU Try.prog 63 = true := by kernel_rfl
@[simp] theorem hu74 : hasU Try.prog 74 = true := by kernel_rfl
@[simp] theorem hu79 : hasU Try.prog 79 = true := by kernel_rfl
@[simp] theorem hu81 : hasU Try.prog 81 = true := by kernel_rfl
@[simp] theorem kd3 : kdOf Try.prog 3 = .int .i64 := by kernel_rfl
@[simp] theorem kd5 : kdOf Try.prog 5 = .int .u8 := by kernel_rfl
@[simp] theorem kd9 : kdOf Try.prog 9 = .str := by kernel_rfl
@[simp] theorem kd26 : kdOf Try.prog 26 = .other := by kernel_rfl
@[simp] theorem kd28 : kdOf Try.prog 28 = .int .u64 := by kernel_rfl
@[simp] theorem kd38 : kdOf Try.prog 38 = .other := by kernel_rfl
@[simp] theorem kd39 : kdOf Try.prog 39 = .other := by kernel_rfl
@[simp] theorem kd40 : kdOf Try.prog 40 = .other := by kernel_rfl
@[simp] theorem kd42 : kdOf Try.prog 42 = .other := by kernel_rfl
@[simp] theorem kd53 : kdOf Try.prog 53 = .other := by kernel_rfl
@[simp] theorem kd63 : kdOf Try.prog 63 = .bytes := by kernel_rfl
@[simp] theorem kd105 : kdOf Try.prog 105 = .int .u64 := by kernel_rfl
@[simp] theorem kd107 : kdOf Try.prog 107 = .other := by kernel_rfl
@[simp] theorem mk58 : mapK Try.prog 58 = some (.i64, 3) := by kernel_rfl
@[simp] theorem mk79 : mapK Try.prog 79 = some (.i64, 9) := by kernel_rfl
@[simp] theorem plc30 : plcOf Try.prog 30 = some [(0, 1), (1, 1), (2, 1), (3, 1), (4, 1)] := by kernel_rfl
@[simp] theorem plc48 : plcOf Try.prog 48 = some [(0, 1), (1, 1), (2, 1), (3, 1), (4, 1)] := by kernel_rfl
@[simp] theorem plc74 : plcOf Try.prog 74 = some [(0, 1), (1, 1)] := by kernel_rfl
@[simp] theorem plc81 : plcOf Try.prog 81 = some [(0, 1), (1, 1), (2, 1)] := by kernel_rfl
@[simp] theorem plc83 : plcOf Try.prog 83 = some [(0, 3), (3, 1), (4, 1)] := by kernel_rfl
@[simp] theorem plc92 : plcOf Try.prog 92 = some [(0, 1), (1, 1)] := by kernel_rfl
@[simp] theorem sz3 : szOf Try.prog 3 = 1 := by kernel_rfl
@[simp] theorem sz4 : szOf Try.prog 4 = 1 := by kernel_rfl
@[simp] theorem sz5 : szOf Try.prog 5 = 1 := by kernel_rfl
@[simp] theorem sz9 : szOf Try.prog 9 = 1 := by kernel_rfl
@[simp] theorem sz24 : szOf Try.prog 24 = 1 := by kernel_rfl
@[simp] theorem sz26 : szOf Try.prog 26 = 1 := by kernel_rfl
@[simp] theorem sz28 : szOf Try.prog 28 = 1 := by kernel_rfl
@[simp] theorem sz30 : szOf Try.prog 30 = 5 := by kernel_rfl
@[simp] theorem sz31 : szOf Try.prog 31 = 1 := by kernel_rfl
@[simp] theorem sz45 : szOf Try.prog 45 = 8 := by kernel_rfl
@[simp] theorem sz48 : szOf Try.prog 48 = 5 := by kernel_rfl
@[simp] theorem sz58 : szOf Try.prog 58 = 1 := by kernel_rfl
@[simp] theorem sz63 : szOf Try.prog 63 = 1 := by kernel_rfl
@[simp] theorem sz74 : szOf Try.prog 74 = 2 := by kernel_rfl
@[simp] theorem sz79 : szOf Try.prog 79 = 1 := by kernel_rfl
@[simp] theorem sz81 : szOf Try.prog 81 = 3 := by kernel_rfl
@[simp] theorem un26 : Try.prog.underlying 26 = some (.slice 30) := by kernel_rfl
@[simp] theorem un40 : Try.prog.underlying 40 = some (.slice 26) := by kernel_rfl
@[simp] theorem un42 : Try.prog.underlying 42 = some (.slice 48) := by kernel_rfl
@[simp] theorem un53 : Try.prog.underlying 53 = some (.slice 3) := by kernel_rfl
@[simp] theorem un63 : Try.prog.underlying 63 = some (.slice 5) := by kernel_rfl
@[simp] theorem zero5 : zeroOf Try.prog 5 = some [.int .u8 0] := by kernel_rfl
@[simp] theorem zero24 : zeroOf Try.prog 24 = some [.pointer none] := by kernel_rfl
@[simp] theorem zero26 : zeroOf Try.prog 26 = some [.slice none 0 0] := by kernel_rfl
@[simp] theorem zero30 : zeroOf Try.prog 30 = some [.int .i64 0, .int .i64 0, .int .u64 0, .int .i64 0, .string (bs [])] := by kernel_rfl
@[simp] theorem zero48 : zeroOf Try.prog 48 = some [.int .i64 0, .int .i64 0, .int .u64 0, .int .i64 0, .string (bs [])] := by kernel_rfl
@[simp] theorem zero58 : zeroOf Try.prog 58 = some [.map none] := by kernel_rfl
@[simp] theorem zero65 : zeroOf Try.prog 65 = some [.slice none 0 0] := by kernel_rfl
@[simp] theorem zero74 : zeroOf Try.prog 74 = some [.string (bs []), .int .i64 0] := by kernel_rfl
@[simp] theorem zero81 : zeroOf Try.prog 81 = some [.int .i64 0, .int .i64 0, .int .u64 0] := by kernel_rfl
@[simp] theorem zero83 : zeroOf Try.prog 83 = some [.int .i64 0, .int .i64 0, .int .u64 0, .bool false, .map none] := by kernel_rfl
@[simp] theorem zero92 : zeroOf Try.prog 92 = some [.string (bs []), .int .i64 0] := by kernel_rfl
@[simp] theorem zt3 : zT Try.prog 3 = some (.v (.int .i64 0)) := by kernel_rfl
@[simp] theorem zt9 : zT Try.prog 9 = some (.v (.string (bs []))) := by kernel_rfl
end Go.Proofs.Ytijgbinkdjekoaa.TL
