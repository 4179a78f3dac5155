/- Facts on the program's types. -/
import Derived.Test.YtmpmkedebjejgaaTD
import Derived.Test.YtmpmkedebjejgaaProg
import Derived.KernelRfl
namespace Go.Proofs.Ytmpmkedebjejgaa.TL
open Go
@[simp] theorem ag2 : isAg Try.prog 2 = false := by kernel_rfl
@[simp] theorem ag3 : isAg Try.prog 3 = false := by kernel_rfl
@[simp] theorem ag9 : isAg Try.prog 9 = false := by kernel_rfl
@[simp] theorem ag23 : isAg Try.prog 23 = false := by kernel_rfl
@[simp] theorem ag25 : isAg Try.prog 25 = true := by kernel_rfl
@[simp] theorem ag26 : isAg Try.prog 26 = false := by kernel_rfl
@[simp] theorem ag28 : isAg Try.prog 28 = true := by kernel_rfl
@[simp] theorem ag29 : isAg Try.prog 29 = false := by kernel_rfl
@[simp] theorem ag33 : isAg Try.prog 33 = true := by kernel_rfl
@[simp] theorem ag34 : isAg Try.prog 34 = false := by kernel_rfl
@[simp] theorem ag35 : isAg Try.prog 35 = true := by kernel_rfl
@[simp] theorem ag36 : isAg Try.prog 36 = false := by kernel_rfl
@[simp] theorem ag38 : isAg Try.prog 38 = true := by kernel_rfl
@[simp] theorem ag46 : isAg Try.prog 46 = false := by kernel_rfl
@[simp] theorem ag48 : isAg Try.prog 48 = false := by kernel_rfl
@[simp] theorem ag50 : isAg Try.prog 50 = true := by kernel_rfl
@[simp] theorem ag52 : isAg Try.prog 52 = false := by kernel_rfl
@[simp] theorem ag71 : isAg Try.prog 71 = false := by kernel_rfl
@[simp] theorem ag72 : isAg Try.prog 72 = false := by kernel_rfl
@[simp] theorem ag74 : isAg Try.prog 74 = true := by kernel_rfl
@[simp] theorem ag81 : isAg Try.prog 81 = false := by kernel_rfl
@[simp] theorem ag85 : isAg Try.prog 85 = true := by kernel_rfl
@[simp] theorem ag87 : isAg Try.prog 87 = true := by kernel_rfl
@[simp] theorem ag88 : isAg Try.prog 88 = true := by kernel_rfl
@[simp] theorem ag110 : isAg Try.prog 110 = false := by kernel_rfl
@[simp] theorem ag119 : isAg Try.prog 119 = true := by kernel_rfl
@[simp] theorem ag121 : isAg Try.prog 121 = true := by kernel_rfl
@[simp] theorem ar9 : arrOf Try.prog 9 = none := by kernel_rfl
@[simp] theorem ar23 : arrOf Try.prog 23 = none := by kernel_rfl
@[simp] theorem ar26 : arrOf Try.prog 26 = none := by kernel_rfl
@[simp] theorem ar34 : arrOf Try.prog 34 = none := by kernel_rfl
@[simp] theorem ar36 : arrOf Try.prog 36 = none := by kernel_rfl
@[simp] theorem ar46 : arrOf Try.prog 46 = none := by kernel_rfl
@[simp] theorem ar47 : arrOf Try.prog 47 = none := by kernel_rfl
@[simp] theorem ar55 : arrOf Try.prog 55 = none := by kernel_rfl
@[simp] theorem ar68 : arrOf Try.prog 68 = none := by kernel_rfl
@[simp] theorem ar71 : arrOf Try.prog 71 = none := by kernel_rfl
@[simp] theorem ar72 : arrOf Try.prog 72 = none := by kernel_rfl
@[simp] theorem ar81 : arrOf Try.prog 81 = none := by kernel_rfl
@[simp] theorem ar134 : arrOf Try.prog 134 = none := by kernel_rfl
@[simp] theorem ar136 : arrOf Try.prog 136 = none := by kernel_rfl
@[simp] theorem by3 : byOf Try.prog 3 = 8 := by kernel_rfl
@[simp] theorem by5 : byOf Try.prog 5 = 1 := by kernel_rfl
@[simp] theorem by28 : byOf Try.prog 28 = 72 := by kernel_rfl
@[simp] theorem by74 : byOf Try.prog 74 = 32 := by kernel_rfl
@[simp] theorem by85 : byOf Try.prog 85 = 32 := by kernel_rfl
@[simp] theorem by87 : byOf Try.prog 87 = 40 := by kernel_rfl
@[simp] theorem by88 : byOf Try.prog 88 = 40 := by kernel_rfl
@[simp] theorem by119 : byOf Try.prog 119 = 32 := by kernel_rfl
@[simp] theorem by121 : byOf Try.prog 121 = 32 := by kernel_rfl
@[simp] theorem el9 : elemOf Try.prog 9 = none := by kernel_rfl
@[simp] theorem el23 : elemOf Try.prog 23 = some 3 := by kernel_rfl
@[simp] theorem el26 : elemOf Try.prog 26 = some 2 := by kernel_rfl
@[simp] theorem el34 : elemOf Try.prog 34 = some 3 := by kernel_rfl
@[simp] theorem el36 : elemOf Try.prog 36 = some 2 := by kernel_rfl
@[simp] theorem el46 : elemOf Try.prog 46 = some 1 := by kernel_rfl
@[simp] theorem el47 : elemOf Try.prog 47 = some 1 := by kernel_rfl
@[simp] theorem el52 : elemOf Try.prog 52 = some 1 := by kernel_rfl
@[simp] theorem el55 : elemOf Try.prog 55 = some 5 := by kernel_rfl
@[simp] theorem el68 : elemOf Try.prog 68 = some 1 := by kernel_rfl
@[simp] theorem el71 : elemOf Try.prog 71 = some 4 := by kernel_rfl
@[simp] theorem el72 : elemOf Try.prog 72 = some 4 := by kernel_rfl
@[simp] theorem el81 : elemOf Try.prog 81 = some 4 := by kernel_rfl
@[simp] theorem el134 : elemOf Try.prog 134 = some 1 := by kernel_rfl
@[simp] theorem el136 : elemOf Try.prog 136 = some 1 := by kernel_rfl
@[simp] theorem sc2 : scal Try.prog 2 = some 0 := by kernel_rfl
@[simp] theorem sc3 : scal Try.prog 3 = some 0 := by kernel_rfl
@[simp] theorem sc4 : scal Try.prog 4 = some 2 := by kernel_rfl
@[simp] theorem sc5 : scal Try.prog 5 = some 0 := by kernel_rfl
@[simp] theorem sc9 : scal Try.prog 9 = some 1 := by kernel_rfl
@[simp] theorem eq25 : eqOf Try.prog 25 = some [(0, 0), (1, 0)] := by kernel_rfl
@[simp] theorem sc29 : scal Try.prog 29 = some 0 := by kernel_rfl
@[simp] theorem eq35 : eqOf Try.prog 35 = some [(0, 0), (1, 0)] := by kernel_rfl
@[simp] theorem sc48 : scal Try.prog 48 = some 0 := by kernel_rfl
@[simp] theorem sc110 : scal Try.prog 110 = some 0 := by kernel_rfl
@[simp] theorem eq119 : eqOf Try.prog 119 = some [(0, 0), (1, 0), (2, 0), (3, 0)] := by kernel_rfl
@[simp] theorem fd25_0 : fieldOf Try.prog 25 0 = some (0, 1, false) := by kernel_rfl
@[simp] theorem fd25_1 : fieldOf Try.prog 25 1 = some (1, 1, false) := by kernel_rfl
@[simp] theorem fd28_0 : fieldOf Try.prog 28 0 = some (0, 1, false) := by kernel_rfl
@[simp] theorem fd28_1 : fieldOf Try.prog 28 1 = some (1, 1, false) := by kernel_rfl
@[simp] theorem fd28_2 : fieldOf Try.prog 28 2 = some (2, 2, true) := by kernel_rfl
@[simp] theorem fd28_3 : fieldOf Try.prog 28 3 = some (4, 1, false) := by kernel_rfl
@[simp] theorem fd33_0 : fieldOf Try.prog 33 0 = some (0, 1, false) := by kernel_rfl
@[simp] theorem fd33_1 : fieldOf Try.prog 33 1 = some (1, 1, false) := by kernel_rfl
@[simp] theorem fd35_0 : fieldOf Try.prog 35 0 = some (0, 1, false) := by kernel_rfl
@[simp] theorem fd35_1 : fieldOf Try.prog 35 1 = some (1, 1, false) := by kernel_rfl
@[simp] theorem fd38_0 : fieldOf Try.prog 38 0 = some (0, 1, false) := by kernel_rfl
@[simp] theorem fd38_1 : fieldOf Try.prog 38 1 = some (1, 1, false) := by kernel_rfl
@[simp] theorem fd38_2 : fieldOf Try.prog 38 2 = some (2, 2, true) := by kernel_rfl
@[simp] theorem fd38_3 : fieldOf Try.prog 38 3 = some (4, 1, false) := by kernel_rfl
@[simp] theorem fd50_0 : fieldOf Try.prog 50 0 = some (0, 1, false) := by kernel_rfl
@[simp] theorem fd50_1 : fieldOf Try.prog 50 1 = some (1, 1, false) := by kernel_rfl
@[simp] theorem fd54_0 : fieldOf Try.prog 54 0 = some (0, 1, false) := by kernel_rfl
@[simp] theorem fd74_0 : fieldOf Try.prog 74 0 = some (0, 1, false) := by kernel_rfl
@[simp] theorem fd74_1 : fieldOf Try.prog 74 1 = some (1, 1, false) := by kernel_rfl
@[simp] theorem fd85_0 : fieldOf Try.prog 85 0 = some (0, 1, false) := by kernel_rfl
@[simp] theorem fd85_1 : fieldOf Try.prog 85 1 = some (1, 1, false) := by kernel_rfl
@[simp] theorem fd87_0 : fieldOf Try.prog 87 0 = some (0, 1, false) := by kernel_rfl
@[simp] theorem fd87_1 : fieldOf Try.prog 87 1 = some (1, 1, false) := by kernel_rfl
@[simp] theorem fd87_2 : fieldOf Try.prog 87 2 = some (2, 1, false) := by kernel_rfl
@[simp] theorem fd88_0 : fieldOf Try.prog 88 0 = some (0, 1, false) := by kernel_rfl
@[simp] theorem fd88_1 : fieldOf Try.prog 88 1 = some (1, 1, false) := by kernel_rfl
@[simp] theorem fd88_2 : fieldOf Try.prog 88 2 = some (2, 1, false) := by kernel_rfl
@[simp] theorem fd100_0 : fieldOf Try.prog 100 0 = some (0, 1, false) := by kernel_rfl
@[simp] theorem fd100_1 : fieldOf Try.prog 100 1 = some (1, 1, false) := by kernel_rfl
@[simp] theorem fd119_0 : fieldOf Try.prog 119 0 = some (0, 1, false) := by kernel_rfl
@[simp] theorem fd119_1 : fieldOf Try.prog 119 1 = some (1, 1, false) := by kernel_rfl
@[simp] theorem fd119_2 : fieldOf Try.prog 119 2 = some (2, 1, false) := by kernel_rfl
@[simp] theorem fd119_3 : fieldOf Try.prog 119 3 = some (3, 1, false) := by kernel_rfl
@[simp] theorem fd121_0 : fieldOf Try.prog 121 0 = some (0, 1, false) := by kernel_rfl
@[simp] theorem fd121_1 : fieldOf Try.prog 121 1 = some (1, 1, false) := by kernel_rfl
@[simp] theorem fd121_2 : fieldOf Try.prog 121 2 = some (2, 1, false) := by kernel_rfl
@[simp] theorem fd121_3 : fieldOf Try.prog 121 3 = some (3, 1, false) := by kernel_rfl
@[simp] theorem hu2 : hasU Try.prog 2 = true := by kernel_rfl
@[simp] theorem hu3 : hasU Try.prog 3 = true := by kernel_rfl
@[simp] theorem hu5 : hasU Try.prog 5 = true := by kernel_rfl
@[simp] theorem hu9 : hasU Try.prog 9 = true := by kernel_rfl
@[simp] theorem hu23 : hasU Try.prog 23 = true := by kernel_rfl
@[simp] theorem hu25 : hasU Try.prog 25 = true := by kernel_rfl
@[simp] theorem hu26 : hasU Try.prog 26 = true := by kernel_rfl
@[simp] theorem hu28 : hasU Try.prog 28 = true := by kernel_rfl
@[simp] theorem hu29 : hasU Try.prog 29 = true := by kernel_rfl
@[simp] theorem hu33 : hasU Try.prog 33 = true := by kernel_rfl
@[simp] theorem hu34 : hasU Try.prog 34 = true := by kernel_rfl
@[simp] theorem hu35 : hasU Try.prog 35 = true := by kernel_rfl
@[simp] theorem hu36 : hasU Try.prog 36 = true := by kernel_rfl
@[simp] theorem hu38 : hasU Try.prog 38 = true := by kernel_rfl
@[simp] theorem hu46 : hasU Try.prog 46 = true := by kernel_rfl
@[simp] theorem hu48 : hasU Try.prog 48 = true := by kernel_rfl
@[simp] theorem hu50 : hasU Try.prog 50 = true := by kernel_rfl
@[simp] theorem hu52 : hasU Try.prog 52 = true := by kernel_rfl
@[simp] theorem hu71 : hasU Try.prog 71 = true := by kernel_rfl
@[simp] theorem hu72 : hasU Try.prog 72 = true := by kernel_rfl
@[simp] theorem hu74 : hasU Try.prog 74 = true := by kernel_rfl
@[simp] theorem hu81 : hasU Try.prog 81 = true := by kernel_rfl
@[simp] theorem hu85 : hasU Try.prog 85 = true := by kernel_rfl
@[simp] theorem hu87 : hasU Try.prog 87 = true := by kernel_rfl
@[simp] theorem hu88 : hasU Try.prog 88 = true := by kernel_rfl
@[simp] theorem hu110 : hasU Try.prog 110 = true := by kernel_rfl
@[simp] theorem hu119 : hasU Try.prog 119 = true := by kernel_rfl
@[simp] theorem hu121 : hasU Try.prog 121 = true := by kernel_rfl
@[simp] theorem kd2 : kdOf Try.prog 2 = .int .i64 := by kernel_rfl
@[simp] theorem kd3 : kdOf Try.prog 3 = .int .i64 := by kernel_rfl
@[simp] theorem kd5 : kdOf Try.prog 5 = .int .u8 := by kernel_rfl
@[simp] theorem kd9 : kdOf Try.prog 9 = .str := by kernel_rfl
@[simp] theorem kd23 : kdOf Try.prog 23 = .other := by kernel_rfl
@[simp] theorem kd26 : kdOf Try.prog 26 = .other := by kernel_rfl
@[simp] theorem kd34 : kdOf Try.prog 34 = .other := by kernel_rfl
@[simp] theorem kd36 : kdOf Try.prog 36 = .other := by kernel_rfl
@[simp] theorem kd46 : kdOf Try.prog 46 = .other := by kernel_rfl
@[simp] theorem kd47 : kdOf Try.prog 47 = .other := by kernel_rfl
@[simp] theorem kd52 : kdOf Try.prog 52 = .bytes := by kernel_rfl
@[simp] theorem kd55 : kdOf Try.prog 55 = .other := by kernel_rfl
@[simp] theorem kd68 : kdOf Try.prog 68 = .other := by kernel_rfl
@[simp] theorem kd71 : kdOf Try.prog 71 = .other := by kernel_rfl
@[simp] theorem kd72 : kdOf Try.prog 72 = .other := by kernel_rfl
@[simp] theorem kd81 : kdOf Try.prog 81 = .other := by kernel_rfl
@[simp] theorem kd110 : kdOf Try.prog 110 = .int .u64 := by kernel_rfl
@[simp] theorem kd134 : kdOf Try.prog 134 = .other := by kernel_rfl
@[simp] theorem kd136 : kdOf Try.prog 136 = .other := by kernel_rfl
@[simp] theorem plc25 : plcOf Try.prog 25 = some [(0, 1), (1, 1)] := by kernel_rfl
@[simp] theorem plc28 : plcOf Try.prog 28 = some [(0, 1), (1, 1), (2, 2), (4, 1)] := by kernel_rfl
@[simp] theorem plc33 : plcOf Try.prog 33 = some [(0, 1), (1, 1)] := by kernel_rfl
@[simp] theorem plc35 : plcOf Try.prog 35 = some [(0, 1), (1, 1)] := by kernel_rfl
@[simp] theorem plc38 : plcOf Try.prog 38 = some [(0, 1), (1, 1), (2, 2), (4, 1)] := by kernel_rfl
@[simp] theorem plc74 : plcOf Try.prog 74 = some [(0, 1), (1, 1)] := by kernel_rfl
@[simp] theorem plc85 : plcOf Try.prog 85 = some [(0, 1), (1, 1)] := by kernel_rfl
@[simp] theorem plc87 : plcOf Try.prog 87 = some [(0, 1), (1, 1), (2, 1)] := by kernel_rfl
@[simp] theorem plc88 : plcOf Try.prog 88 = some [(0, 1), (1, 1), (2, 1)] := by kernel_rfl
@[simp] theorem plc100 : plcOf Try.prog 100 = some [(0, 1), (1, 1)] := by kernel_rfl
@[simp] theorem plc119 : plcOf Try.prog 119 = some [(0, 1), (1, 1), (2, 1), (3, 1)] := by kernel_rfl
@[simp] theorem plc121 : plcOf Try.prog 121 = some [(0, 1), (1, 1), (2, 1), (3, 1)] := by kernel_rfl
@[simp] theorem sz2 : szOf Try.prog 2 = 1 := by kernel_rfl
@[simp] theorem sz3 : szOf Try.prog 3 = 1 := by kernel_rfl
@[simp] theorem sz9 : szOf Try.prog 9 = 1 := by kernel_rfl
@[simp] theorem sz23 : szOf Try.prog 23 = 1 := by kernel_rfl
@[simp] theorem sz25 : szOf Try.prog 25 = 2 := by kernel_rfl
@[simp] theorem sz26 : szOf Try.prog 26 = 1 := by kernel_rfl
@[simp] theorem sz28 : szOf Try.prog 28 = 5 := by kernel_rfl
@[simp] theorem sz29 : szOf Try.prog 29 = 1 := by kernel_rfl
@[simp] theorem sz33 : szOf Try.prog 33 = 2 := by kernel_rfl
@[simp] theorem sz34 : szOf Try.prog 34 = 1 := by kernel_rfl
@[simp] theorem sz35 : szOf Try.prog 35 = 2 := by kernel_rfl
@[simp] theorem sz36 : szOf Try.prog 36 = 1 := by kernel_rfl
@[simp] theorem sz38 : szOf Try.prog 38 = 5 := by kernel_rfl
@[simp] theorem sz46 : szOf Try.prog 46 = 1 := by kernel_rfl
@[simp] theorem sz48 : szOf Try.prog 48 = 1 := by kernel_rfl
@[simp] theorem sz50 : szOf Try.prog 50 = 2 := by kernel_rfl
@[simp] theorem sz52 : szOf Try.prog 52 = 1 := by kernel_rfl
@[simp] theorem sz71 : szOf Try.prog 71 = 1 := by kernel_rfl
@[simp] theorem sz72 : szOf Try.prog 72 = 1 := by kernel_rfl
@[simp] theorem sz74 : szOf Try.prog 74 = 2 := by kernel_rfl
@[simp] theorem sz81 : szOf Try.prog 81 = 1 := by kernel_rfl
@[simp] theorem sz85 : szOf Try.prog 85 = 2 := by kernel_rfl
@[simp] theorem sz87 : szOf Try.prog 87 = 3 := by kernel_rfl
@[simp] theorem sz88 : szOf Try.prog 88 = 3 := by kernel_rfl
@[simp] theorem sz110 : szOf Try.prog 110 = 1 := by kernel_rfl
@[simp] theorem sz119 : szOf Try.prog 119 = 4 := by kernel_rfl
@[simp] theorem sz121 : szOf Try.prog 121 = 4 := by kernel_rfl
@[simp] theorem un23 : Try.prog.underlying 23 = some (.slice 88) := by kernel_rfl
@[simp] theorem un26 : Try.prog.underlying 26 = some (.slice 74) := by kernel_rfl
@[simp] theorem un34 : Try.prog.underlying 34 = some (.slice 87) := by kernel_rfl
@[simp] theorem un36 : Try.prog.underlying 36 = some (.slice 85) := by kernel_rfl
@[simp] theorem un46 : Try.prog.underlying 46 = some (.slice 3) := by kernel_rfl
@[simp] theorem un52 : Try.prog.underlying 52 = some (.slice 5) := by kernel_rfl
@[simp] theorem un55 : Try.prog.underlying 55 = some (.slice 28) := by kernel_rfl
@[simp] theorem un72 : Try.prog.underlying 72 = some (.slice 121) := by kernel_rfl
@[simp] theorem un81 : Try.prog.underlying 81 = some (.slice 119) := by kernel_rfl
@[simp] theorem zero25 : zeroOf Try.prog 25 = some [.int .i64 0, .int .i64 0] := by kernel_rfl
@[simp] theorem zero28 : zeroOf Try.prog 28 = some [.int .i64 0, .slice none 0 0, .int .i64 0, .int .i64 0, .slice none 0 0] := by kernel_rfl
@[simp] theorem zero33 : zeroOf Try.prog 33 = some [.string (bs []), .int .i64 0] := by kernel_rfl
@[simp] theorem zero35 : zeroOf Try.prog 35 = some [.int .i64 0, .int .i64 0] := by kernel_rfl
@[simp] theorem zero38 : zeroOf Try.prog 38 = some [.int .i64 0, .slice none 0 0, .int .i64 0, .int .i64 0, .slice none 0 0] := by kernel_rfl
@[simp] theorem zero50 : zeroOf Try.prog 50 = some [.int .u32 0, .int .i64 0] := by kernel_rfl
@[simp] theorem zero54 : zeroOf Try.prog 54 = some [.slice none 0 0] := by kernel_rfl
@[simp] theorem zero74 : zeroOf Try.prog 74 = some [.int .i64 0, .slice none 0 0] := by kernel_rfl
@[simp] theorem zero85 : zeroOf Try.prog 85 = some [.int .i64 0, .slice none 0 0] := by kernel_rfl
@[simp] theorem zero87 : zeroOf Try.prog 87 = some [.int .i64 0, .int .i64 0, .slice none 0 0] := by kernel_rfl
@[simp] theorem zero88 : zeroOf Try.prog 88 = some [.int .i64 0, .int .i64 0, .slice none 0 0] := by kernel_rfl
@[simp] theorem zero100 : zeroOf Try.prog 100 = some [.string (bs []), .int .i64 0] := by kernel_rfl
@[simp] theorem zero119 : zeroOf Try.prog 119 = some [.int .i64 0, .int .i64 0, .int .i64 0, .int .i64 0] := by kernel_rfl
@[simp] theorem zero121 : zeroOf Try.prog 121 = some [.int .i64 0, .int .i64 0, .int .i64 0, .int .i64 0] := by kernel_rfl
end Go.Proofs.Ytmpmkedebjejgaa.TL
