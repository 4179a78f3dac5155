/- Facts on the program's types. -/
import Derived.Test.YtkggjmoghpmelaaTD
import Derived.Test.YtkggjmoghpmelaaProg
import Derived.KernelRfl
namespace Go.Proofs.Ytkggjmoghpmelaa.TL
open Go
@[simp] theorem ag2 : isAg Try.prog 2 = false := by kernel_rfl
@[simp] theorem ag3 : isAg Try.prog 3 = false := by kernel_rfl
@[simp] theorem ag4 : isAg Try.prog 4 = false := by kernel_rfl
@[simp] theorem ag9 : isAg Try.prog 9 = false := by kernel_rfl
@[simp] theorem ag25 : isAg Try.prog 25 = false := by kernel_rfl
@[simp] theorem ag34 : isAg Try.prog 34 = false := by kernel_rfl
@[simp] theorem ag35 : isAg Try.prog 35 = false := by kernel_rfl
@[simp] theorem ag36 : isAg Try.prog 36 = false := by kernel_rfl
@[simp] theorem ag37 : isAg Try.prog 37 = false := by kernel_rfl
@[simp] theorem ag39 : isAg Try.prog 39 = true := by kernel_rfl
@[simp] theorem ag46 : isAg Try.prog 46 = false := by kernel_rfl
@[simp] theorem ag54 : isAg Try.prog 54 = true := by kernel_rfl
@[simp] theorem ag60 : isAg Try.prog 60 = true := by kernel_rfl
@[simp] theorem ag62 : isAg Try.prog 62 = true := by kernel_rfl
@[simp] theorem ag69 : isAg Try.prog 69 = false := by kernel_rfl
@[simp] theorem ag71 : isAg Try.prog 71 = true := by kernel_rfl
@[simp] theorem ag75 : isAg Try.prog 75 = true := by kernel_rfl
@[simp] theorem ag78 : isAg Try.prog 78 = true := by kernel_rfl
@[simp] theorem ag80 : isAg Try.prog 80 = true := by kernel_rfl
@[simp] theorem ag81 : isAg Try.prog 81 = false := by kernel_rfl
@[simp] theorem ag83 : isAg Try.prog 83 = true := by kernel_rfl
@[simp] theorem ag85 : isAg Try.prog 85 = true := by kernel_rfl
@[simp] theorem ag86 : isAg Try.prog 86 = true := by kernel_rfl
@[simp] theorem ag88 : isAg Try.prog 88 = true := by kernel_rfl
@[simp] theorem ag90 : isAg Try.prog 90 = true := by kernel_rfl
@[simp] theorem ag95 : isAg Try.prog 95 = false := by kernel_rfl
@[simp] theorem ag100 : isAg Try.prog 100 = false := by kernel_rfl
@[simp] theorem ag102 : isAg Try.prog 102 = true := by kernel_rfl
@[simp] theorem ag106 : isAg Try.prog 106 = false := by kernel_rfl
@[simp] theorem ag108 : isAg Try.prog 108 = false := by kernel_rfl
@[simp] theorem ag110 : isAg Try.prog 110 = true := by kernel_rfl
@[simp] theorem ag115 : isAg Try.prog 115 = true := by kernel_rfl
@[simp] theorem ag132 : isAg Try.prog 132 = true := by kernel_rfl
@[simp] theorem ag137 : isAg Try.prog 137 = true := by kernel_rfl
@[simp] theorem ag139 : isAg Try.prog 139 = true := by kernel_rfl
@[simp] theorem ag141 : isAg Try.prog 141 = true := by kernel_rfl
@[simp] theorem ag148 : isAg Try.prog 148 = true := by kernel_rfl
@[simp] theorem ag151 : isAg Try.prog 151 = true := by kernel_rfl
@[simp] theorem ag155 : isAg Try.prog 155 = true := by kernel_rfl
@[simp] theorem ar9 : arrOf Try.prog 9 = none := by kernel_rfl
@[simp] theorem ar35 : arrOf Try.prog 35 = none := by kernel_rfl
@[simp] theorem ar36 : arrOf Try.prog 36 = none := by kernel_rfl
@[simp] theorem ar37 : arrOf Try.prog 37 = none := by kernel_rfl
@[simp] theorem ar69 : arrOf Try.prog 69 = none := by kernel_rfl
@[simp] theorem ar81 : arrOf Try.prog 81 = none := by kernel_rfl
@[simp] theorem ar95 : arrOf Try.prog 95 = none := by kernel_rfl
@[simp] theorem ar104 : arrOf Try.prog 104 = none := by kernel_rfl
@[simp] theorem ar106 : arrOf Try.prog 106 = none := by kernel_rfl
@[simp] theorem ar108 : arrOf Try.prog 108 = none := by kernel_rfl
@[simp] theorem ar112 : arrOf Try.prog 112 = none := by kernel_rfl
@[simp] theorem ar134 : arrOf Try.prog 134 = none := by kernel_rfl
@[simp] theorem ar168 : arrOf Try.prog 168 = none := by kernel_rfl
@[simp] theorem ar169 : arrOf Try.prog 169 = none := by kernel_rfl
@[simp] theorem as60 : assB Try.prog 60 = true := by kernel_rfl
@[simp] theorem as62 : assB Try.prog 62 = true := by kernel_rfl
@[simp] theorem as71 : assB Try.prog 71 = true := by kernel_rfl
@[simp] theorem as75 : assB Try.prog 75 = true := by kernel_rfl
@[simp] theorem as78 : assB Try.prog 78 = true := by kernel_rfl
@[simp] theorem as85 : assB Try.prog 85 = true := by kernel_rfl
@[simp] theorem as86 : assB Try.prog 86 = true := by kernel_rfl
@[simp] theorem as90 : assB Try.prog 90 = true := by kernel_rfl
@[simp] theorem by3 : byOf Try.prog 3 = 8 := by kernel_rfl
@[simp] theorem by5 : byOf Try.prog 5 = 1 := by kernel_rfl
@[simp] theorem by88 : byOf Try.prog 88 = 48 := by kernel_rfl
@[simp] theorem by132 : byOf Try.prog 132 = 32 := by kernel_rfl
@[simp] theorem by137 : byOf Try.prog 137 = 40 := by kernel_rfl
@[simp] theorem by139 : byOf Try.prog 139 = 32 := by kernel_rfl
@[simp] theorem by141 : byOf Try.prog 141 = 32 := by kernel_rfl
@[simp] theorem by148 : byOf Try.prog 148 = 40 := by kernel_rfl
@[simp] theorem by151 : byOf Try.prog 151 = 32 := by kernel_rfl
@[simp] theorem cc60 : Try.prog.concrete 60 = true := by kernel_rfl
@[simp] theorem cc62 : Try.prog.concrete 62 = true := by kernel_rfl
@[simp] theorem cc64 : Try.prog.concrete 64 = true := by kernel_rfl
@[simp] theorem cc71 : Try.prog.concrete 71 = true := by kernel_rfl
@[simp] theorem cc75 : Try.prog.concrete 75 = true := by kernel_rfl
@[simp] theorem cc78 : Try.prog.concrete 78 = true := by kernel_rfl
@[simp] theorem cc85 : Try.prog.concrete 85 = true := by kernel_rfl
@[simp] theorem cc86 : Try.prog.concrete 86 = true := by kernel_rfl
@[simp] theorem cc90 : Try.prog.concrete 90 = true := by kernel_rfl
@[simp] theorem cc98 : Try.prog.concrete 98 = true := by kernel_rfl
@[simp] theorem el9 : elemOf Try.prog 9 = none := by kernel_rfl
@[simp] theorem el35 : elemOf Try.prog 35 = some 4 := by kernel_rfl
@[simp] theorem el36 : elemOf Try.prog 36 = some 1 := by kernel_rfl
@[simp] theorem el37 : elemOf Try.prog 37 = some 3 := by kernel_rfl
@[simp] theorem el46 : elemOf Try.prog 46 = some 1 := by kernel_rfl
@[simp] theorem el69 : elemOf Try.prog 69 = some 4 := by kernel_rfl
@[simp] theorem el81 : elemOf Try.prog 81 = some 2 := by kernel_rfl
@[simp] theorem el95 : elemOf Try.prog 95 = some 4 := by kernel_rfl
@[simp] theorem el104 : elemOf Try.prog 104 = some 1 := by kernel_rfl
@[simp] theorem el106 : elemOf Try.prog 106 = some 3 := by kernel_rfl
@[simp] theorem el108 : elemOf Try.prog 108 = some 2 := by kernel_rfl
@[simp] theorem el112 : elemOf Try.prog 112 = some 5 := by kernel_rfl
@[simp] theorem el134 : elemOf Try.prog 134 = some 1 := by kernel_rfl
@[simp] theorem el168 : elemOf Try.prog 168 = some 1 := by kernel_rfl
@[simp] theorem el169 : elemOf Try.prog 169 = some 1 := by kernel_rfl
@[simp] theorem sc2 : scal Try.prog 2 = some 0 := by kernel_rfl
@[simp] theorem sc3 : scal Try.prog 3 = some 0 := by kernel_rfl
@[simp] theorem sc4 : scal Try.prog 4 = some 2 := by kernel_rfl
@[simp] theorem sc5 : scal Try.prog 5 = some 0 := by kernel_rfl
@[simp] theorem sc9 : scal Try.prog 9 = some 1 := by kernel_rfl
@[simp] theorem if24 : isIfc Try.prog 24 = true := by kernel_rfl
@[simp] theorem ei60 : eqIf Try.prog 60 = some [(0, 0), (1, 2)] := by kernel_rfl
@[simp] theorem ei62 : eqIf Try.prog 62 = some [(0, 0)] := by kernel_rfl
@[simp] theorem ei64 : eqIf Try.prog 64 = some [] := by kernel_rfl
@[simp] theorem ei75 : eqIf Try.prog 75 = some [(0, 0), (1, 0)] := by kernel_rfl
@[simp] theorem ei78 : eqIf Try.prog 78 = some [(0, 0)] := by kernel_rfl
@[simp] theorem ei86 : eqIf Try.prog 86 = some [(0, 0)] := by kernel_rfl
@[simp] theorem ei90 : eqIf Try.prog 90 = some [(0, 0), (1, 0), (2, 0), (3, 0), (4, 1)] := by kernel_rfl
@[simp] theorem ei98 : eqIf Try.prog 98 = some [] := by kernel_rfl
@[simp] theorem sc25 : scal Try.prog 25 = some 0 := by kernel_rfl
@[simp] theorem sc34 : scal Try.prog 34 = some 0 := by kernel_rfl
@[simp] theorem sc100 : scal Try.prog 100 = some 0 := by kernel_rfl
@[simp] theorem fd39_0 : fieldOf Try.prog 39 0 = some (0, 1, false) := by kernel_rfl
@[simp] theorem fd39_1 : fieldOf Try.prog 39 1 = some (1, 1, false) := by kernel_rfl
@[simp] theorem fd39_2 : fieldOf Try.prog 39 2 = some (2, 1, false) := by kernel_rfl
@[simp] theorem fd39_3 : fieldOf Try.prog 39 3 = some (3, 1, false) := by kernel_rfl
@[simp] theorem fd39_4 : fieldOf Try.prog 39 4 = some (4, 1, false) := by kernel_rfl
@[simp] theorem fd39_5 : fieldOf Try.prog 39 5 = some (5, 1, false) := by kernel_rfl
@[simp] theorem fd39_6 : fieldOf Try.prog 39 6 = some (6, 1, false) := by kernel_rfl
@[simp] theorem fd39_7 : fieldOf Try.prog 39 7 = some (7, 1, false) := by kernel_rfl
@[simp] theorem fd39_8 : fieldOf Try.prog 39 8 = some (8, 1, false) := by kernel_rfl
@[simp] theorem fd54_0 : fieldOf Try.prog 54 0 = some (0, 1, false) := by kernel_rfl
@[simp] theorem fd54_1 : fieldOf Try.prog 54 1 = some (1, 1, false) := by kernel_rfl
@[simp] theorem fd60_0 : fieldOf Try.prog 60 0 = some (0, 1, false) := by kernel_rfl
@[simp] theorem fd60_1 : fieldOf Try.prog 60 1 = some (1, 1, false) := by kernel_rfl
@[simp] theorem fd62_0 : fieldOf Try.prog 62 0 = some (0, 1, false) := by kernel_rfl
@[simp] theorem fd66_0 : fieldOf Try.prog 66 0 = some (0, 1, false) := by kernel_rfl
@[simp] theorem fd71_0 : fieldOf Try.prog 71 0 = some (0, 1, false) := by kernel_rfl
@[simp] theorem fd71_1 : fieldOf Try.prog 71 1 = some (1, 1, false) := by kernel_rfl
@[simp] theorem fd75_0 : fieldOf Try.prog 75 0 = some (0, 1, false) := by kernel_rfl
@[simp] theorem fd75_1 : fieldOf Try.prog 75 1 = some (1, 1, false) := by kernel_rfl
@[simp] theorem fd78_0 : fieldOf Try.prog 78 0 = some (0, 1, false) := by kernel_rfl
@[simp] theorem fd80_0 : fieldOf Try.prog 80 0 = some (0, 1, false) := by kernel_rfl
@[simp] theorem fd80_1 : fieldOf Try.prog 80 1 = some (1, 1, false) := by kernel_rfl
@[simp] theorem fd83_0 : fieldOf Try.prog 83 0 = some (0, 1, false) := by kernel_rfl
@[simp] theorem fd83_1 : fieldOf Try.prog 83 1 = some (1, 1, false) := by kernel_rfl
@[simp] theorem fd83_2 : fieldOf Try.prog 83 2 = some (2, 2, true) := by kernel_rfl
@[simp] theorem fd83_3 : fieldOf Try.prog 83 3 = some (4, 1, false) := by kernel_rfl
@[simp] theorem fd85_0 : fieldOf Try.prog 85 0 = some (0, 5, true) := by kernel_rfl
@[simp] theorem fd86_0 : fieldOf Try.prog 86 0 = some (0, 1, false) := by kernel_rfl
@[simp] theorem fd88_0 : fieldOf Try.prog 88 0 = some (0, 1, false) := by kernel_rfl
@[simp] theorem fd88_1 : fieldOf Try.prog 88 1 = some (1, 1, false) := by kernel_rfl
@[simp] theorem fd88_2 : fieldOf Try.prog 88 2 = some (2, 1, false) := by kernel_rfl
@[simp] theorem fd88_3 : fieldOf Try.prog 88 3 = some (3, 1, false) := by kernel_rfl
@[simp] theorem fd88_4 : fieldOf Try.prog 88 4 = some (4, 1, false) := by kernel_rfl
@[simp] theorem fd90_0 : fieldOf Try.prog 90 0 = some (0, 5, true) := by kernel_rfl
@[simp] theorem fd102_0 : fieldOf Try.prog 102 0 = some (0, 1, false) := by kernel_rfl
@[simp] theorem fd102_1 : fieldOf Try.prog 102 1 = some (1, 1, false) := by kernel_rfl
@[simp] theorem fd107_0 : fieldOf Try.prog 107 0 = some (0, 1, false) := by kernel_rfl
@[simp] theorem fd107_1 : fieldOf Try.prog 107 1 = some (1, 1, false) := by kernel_rfl
@[simp] theorem fd110_0 : fieldOf Try.prog 110 0 = some (0, 1, false) := by kernel_rfl
@[simp] theorem fd110_1 : fieldOf Try.prog 110 1 = some (1, 1, false) := by kernel_rfl
@[simp] theorem fd110_2 : fieldOf Try.prog 110 2 = some (2, 2, true) := by kernel_rfl
@[simp] theorem fd110_3 : fieldOf Try.prog 110 3 = some (4, 1, false) := by kernel_rfl
@[simp] theorem fd115_0 : fieldOf Try.prog 115 0 = some (0, 1, false) := by kernel_rfl
@[simp] theorem fd115_1 : fieldOf Try.prog 115 1 = some (1, 1, false) := by kernel_rfl
@[simp] theorem fd115_2 : fieldOf Try.prog 115 2 = some (2, 1, false) := by kernel_rfl
@[simp] theorem fd115_3 : fieldOf Try.prog 115 3 = some (3, 1, false) := by kernel_rfl
@[simp] theorem fd115_4 : fieldOf Try.prog 115 4 = some (4, 1, false) := by kernel_rfl
@[simp] theorem fd117_0 : fieldOf Try.prog 117 0 = some (0, 1, false) := by kernel_rfl
@[simp] theorem fd117_1 : fieldOf Try.prog 117 1 = some (1, 1, false) := by kernel_rfl
@[simp] theorem fd132_0 : fieldOf Try.prog 132 0 = some (0, 1, false) := by kernel_rfl
@[simp] theorem fd132_1 : fieldOf Try.prog 132 1 = some (1, 1, false) := by kernel_rfl
@[simp] theorem fd132_2 : fieldOf Try.prog 132 2 = some (2, 1, false) := by kernel_rfl
@[simp] theorem fd132_3 : fieldOf Try.prog 132 3 = some (3, 1, false) := by kernel_rfl
@[simp] theorem fd137_0 : fieldOf Try.prog 137 0 = some (0, 1, false) := by kernel_rfl
@[simp] theorem fd137_1 : fieldOf Try.prog 137 1 = some (1, 1, false) := by kernel_rfl
@[simp] theorem fd137_2 : fieldOf Try.prog 137 2 = some (2, 1, false) := by kernel_rfl
@[simp] theorem fd139_0 : fieldOf Try.prog 139 0 = some (0, 1, false) := by kernel_rfl
@[simp] theorem fd139_1 : fieldOf Try.prog 139 1 = some (1, 1, false) := by kernel_rfl
@[simp] theorem fd141_0 : fieldOf Try.prog 141 0 = some (0, 1, false) := by kernel_rfl
@[simp] theorem fd141_1 : fieldOf Try.prog 141 1 = some (1, 1, false) := by kernel_rfl
@[simp] theorem fd141_2 : fieldOf Try.prog 141 2 = some (2, 1, false) := by kernel_rfl
@[simp] theorem fd141_3 : fieldOf Try.prog 141 3 = some (3, 1, false) := by kernel_rfl
@[simp] theorem fd148_0 : fieldOf Try.prog 148 0 = some (0, 1, false) := by kernel_rfl
@[simp] theorem fd148_1 : fieldOf Try.prog 148 1 = some (1, 1, false) := by kernel_rfl
@[simp] theorem fd148_2 : fieldOf Try.prog 148 2 = some (2, 1, false) := by kernel_rfl
@[simp] theorem fd151_0 : fieldOf Try.prog 151 0 = some (0, 1, false) := by kernel_rfl
@[simp] theorem fd151_1 : fieldOf Try.prog 151 1 = some (1, 1, false) := by kernel_rfl
@[simp] theorem fd155_0 : fieldOf Try.prog 155 0 = some (0, 1, false) := by kernel_rfl
@[simp] theorem fd155_1 : fieldOf Try.prog 155 1 = some (1, 1, false) := by kernel_rfl
@[simp] theorem fd155_2 : fieldOf Try.prog 155 2 = some (2, 1, false) := by kernel_rfl
@[simp] theorem hu2 : hasU Try.prog 2 = true := by kernel_rfl
@[simp] theorem hu3 : hasU Try.prog 3 = true := by kernel_rfl
@[simp] theorem hu4 : hasU Try.prog 4 = true := by kernel_rfl
@[simp] theorem hu5 : hasU Try.prog 5 = true := by kernel_rfl
@[simp] theorem hu9 : hasU Try.prog 9 = true := by kernel_rfl
@[simp] theorem hu25 : hasU Try.prog 25 = true := by kernel_rfl
@[simp] theorem hu34 : hasU Try.prog 34 = true := by kernel_rfl
@[simp] theorem hu35 : hasU Try.prog 35 = true := by kernel_rfl
@[simp] theorem hu36 : hasU Try.prog 36 = true := by kernel_rfl
@[simp] theorem hu37 : hasU Try.prog 37 = true := by kernel_rfl
@[simp] theorem hu39 : hasU Try.prog 39 = true := by kernel_rfl
@[simp] theorem hu46 : hasU Try.prog 46 = true := by kernel_rfl
@[simp] theorem hu54 : hasU Try.prog 54 = true := by kernel_rfl
@[simp] theorem hu60 : hasU Try.prog 60 = true := by kernel_rfl
@[simp] theorem hu62 : hasU Try.prog 62 = true := by kernel_rfl
@[simp] theorem hu69 : hasU Try.prog 69 = true := by kernel_rfl
@[simp] theorem hu71 : hasU Try.prog 71 = true := by kernel_rfl
@[simp] theorem hu75 : hasU Try.prog 75 = true := by kernel_rfl
@[simp] theorem hu78 : hasU Try.prog 78 = true := by kernel_rfl
@[simp] theorem hu80 : hasU Try.prog 80 = true := by kernel_rfl
@[simp] theorem hu81 : hasU Try.prog 81 = true := by kernel_rfl
@[simp] theorem hu83 : hasU Try.prog 83 = true := by kernel_rfl
@[simp] theorem hu85 : hasU Try.prog 85 = true := by kernel_rfl
@[simp] theorem hu86 : hasU Try.prog 86 = true := by kernel_rfl
@[simp] theorem hu88 : hasU Try.prog 88 = true := by kernel_rfl
@[simp] theorem hu90 : hasU Try.prog 90 = true := by kernel_rfl
@[simp] theorem hu95 : hasU Try.prog 95 = true := by kernel_rfl
@[simp] theorem hu100 : hasU Try.prog 100 = true := by kernel_rfl
@[simp] theorem hu102 : hasU Try.prog 102 = true := by kernel_rfl
@[simp] theorem hu106 : hasU Try.prog 106 = true := by kernel_rfl
@[simp] theorem hu108 : hasU Try.prog 108 = true := by kernel_rfl
@[simp] theorem hu110 : hasU Try.prog 110 = true := by kernel_rfl
@[simp] theorem hu115 : hasU Try.prog 115 = true := by kernel_rfl
@[simp] theorem hu132 : hasU Try.prog 132 = true := by kernel_rfl
@[simp] theorem hu137 : hasU Try.prog 137 = true := by kernel_rfl
@[simp] theorem hu139 : hasU Try.prog 139 = true := by kernel_rfl
@[simp] theorem hu141 : hasU Try.prog 141 = true := by kernel_rfl
@[simp] theorem hu148 : hasU Try.prog 148 = true := by kernel_rfl
@[simp] theorem hu151 : hasU Try.prog 151 = true := by kernel_rfl
@[simp] theorem hu155 : hasU Try.prog 155 = true := by kernel_rfl
@[simp] theorem kd2 : kdOf Try.prog 2 = .int .i64 := by kernel_rfl
@[simp] theorem kd3 : kdOf Try.prog 3 = .int .i64 := by kernel_rfl
@[simp] theorem kd5 : kdOf Try.prog 5 = .int .u8 := by kernel_rfl
@[simp] theorem kd9 : kdOf Try.prog 9 = .str := by kernel_rfl
@[simp] theorem kd34 : kdOf Try.prog 34 = .int .u64 := by kernel_rfl
@[simp] theorem kd35 : kdOf Try.prog 35 = .other := by kernel_rfl
@[simp] theorem kd36 : kdOf Try.prog 36 = .other := by kernel_rfl
@[simp] theorem kd37 : kdOf Try.prog 37 = .other := by kernel_rfl
@[simp] theorem kd46 : kdOf Try.prog 46 = .bytes := by kernel_rfl
@[simp] theorem kd69 : kdOf Try.prog 69 = .other := by kernel_rfl
@[simp] theorem kd81 : kdOf Try.prog 81 = .other := by kernel_rfl
@[simp] theorem kd95 : kdOf Try.prog 95 = .other := by kernel_rfl
@[simp] theorem kd104 : kdOf Try.prog 104 = .other := by kernel_rfl
@[simp] theorem kd106 : kdOf Try.prog 106 = .other := by kernel_rfl
@[simp] theorem kd108 : kdOf Try.prog 108 = .other := by kernel_rfl
@[simp] theorem kd112 : kdOf Try.prog 112 = .other := by kernel_rfl
@[simp] theorem kd134 : kdOf Try.prog 134 = .other := by kernel_rfl
@[simp] theorem kd168 : kdOf Try.prog 168 = .other := by kernel_rfl
@[simp] theorem kd169 : kdOf Try.prog 169 = .other := by kernel_rfl
@[simp] theorem kd172 : kdOf Try.prog 172 = .int .u64 := by kernel_rfl
@[simp] theorem me60_Kind : methOf Try.prog 60 "Kind" = some 103 := by kernel_rfl
@[simp] theorem me62_Kind : methOf Try.prog 62 "Kind" = some 104 := by kernel_rfl
@[simp] theorem me64_Kind : methOf Try.prog 64 "Kind" = some 105 := by kernel_rfl
@[simp] theorem me71_Kind : methOf Try.prog 71 "Kind" = some 107 := by kernel_rfl
@[simp] theorem me75_Kind : methOf Try.prog 75 "Kind" = some 108 := by kernel_rfl
@[simp] theorem me78_Kind : methOf Try.prog 78 "Kind" = some 109 := by kernel_rfl
@[simp] theorem me85_Kind : methOf Try.prog 85 "Kind" = some 112 := by kernel_rfl
@[simp] theorem me86_Kind : methOf Try.prog 86 "Kind" = some 113 := by kernel_rfl
@[simp] theorem me90_Kind : methOf Try.prog 90 "Kind" = some 114 := by kernel_rfl
@[simp] theorem me98_Kind : methOf Try.prog 98 "Kind" = some 115 := by kernel_rfl
@[simp] theorem mk45 : mapK Try.prog 45 = some (.i64, 3) := by kernel_rfl
@[simp] theorem plc54 : plcOf Try.prog 54 = some [(0, 1), (1, 1)] := by kernel_rfl
@[simp] theorem plc60 : plcOf Try.prog 60 = some [(0, 1), (1, 1)] := by kernel_rfl
@[simp] theorem plc62 : plcOf Try.prog 62 = some [(0, 1)] := by kernel_rfl
@[simp] theorem plc64 : plcOf Try.prog 64 = some [] := by kernel_rfl
@[simp] theorem plc71 : plcOf Try.prog 71 = some [(0, 1), (1, 1)] := by kernel_rfl
@[simp] theorem plc75 : plcOf Try.prog 75 = some [(0, 1), (1, 1)] := by kernel_rfl
@[simp] theorem plc78 : plcOf Try.prog 78 = some [(0, 1)] := by kernel_rfl
@[simp] theorem plc80 : plcOf Try.prog 80 = some [(0, 1), (1, 1)] := by kernel_rfl
@[simp] theorem plc83 : plcOf Try.prog 83 = some [(0, 1), (1, 1), (2, 2), (4, 1)] := by kernel_rfl
@[simp] theorem plc85 : plcOf Try.prog 85 = some [(0, 5)] := by kernel_rfl
@[simp] theorem plc86 : plcOf Try.prog 86 = some [(0, 1)] := by kernel_rfl
@[simp] theorem plc88 : plcOf Try.prog 88 = some [(0, 1), (1, 1), (2, 1), (3, 1), (4, 1)] := by kernel_rfl
@[simp] theorem plc90 : plcOf Try.prog 90 = some [(0, 5)] := by kernel_rfl
@[simp] theorem plc98 : plcOf Try.prog 98 = some [] := by kernel_rfl
@[simp] theorem plc107 : plcOf Try.prog 107 = some [(0, 1), (1, 1)] := by kernel_rfl
@[simp] theorem plc110 : plcOf Try.prog 110 = some [(0, 1), (1, 1), (2, 2), (4, 1)] := by kernel_rfl
@[simp] theorem plc115 : plcOf Try.prog 115 = some [(0, 1), (1, 1), (2, 1), (3, 1), (4, 1)] := by kernel_rfl
@[simp] theorem plc117 : plcOf Try.prog 117 = some [(0, 1), (1, 1)] := by kernel_rfl
@[simp] theorem plc132 : plcOf Try.prog 132 = some [(0, 1), (1, 1), (2, 1), (3, 1)] := by kernel_rfl
@[simp] theorem plc137 : plcOf Try.prog 137 = some [(0, 1), (1, 1), (2, 1)] := by kernel_rfl
@[simp] theorem plc139 : plcOf Try.prog 139 = some [(0, 1), (1, 1)] := by kernel_rfl
@[simp] theorem plc141 : plcOf Try.prog 141 = some [(0, 1), (1, 1), (2, 1), (3, 1)] := by kernel_rfl
@[simp] theorem plc148 : plcOf Try.prog 148 = some [(0, 1), (1, 1), (2, 1)] := by kernel_rfl
@[simp] theorem plc151 : plcOf Try.prog 151 = some [(0, 1), (1, 1)] := by kernel_rfl
@[simp] theorem plc155 : plcOf Try.prog 155 = some [(0, 1), (1, 1), (2, 1)] := by kernel_rfl
@[simp] theorem sz2 : szOf Try.prog 2 = 1 := by kernel_rfl
@[simp] theorem sz3 : szOf Try.prog 3 = 1 := by kernel_rfl
@[simp] theorem sz4 : szOf Try.prog 4 = 1 := by kernel_rfl
@[simp] theorem sz9 : szOf Try.prog 9 = 1 := by kernel_rfl
@[simp] theorem sz25 : szOf Try.prog 25 = 1 := by kernel_rfl
@[simp] theorem sz34 : szOf Try.prog 34 = 1 := by kernel_rfl
@[simp] theorem sz35 : szOf Try.prog 35 = 1 := by kernel_rfl
@[simp] theorem sz36 : szOf Try.prog 36 = 1 := by kernel_rfl
@[simp] theorem sz37 : szOf Try.prog 37 = 1 := by kernel_rfl
@[simp] theorem sz39 : szOf Try.prog 39 = 9 := by kernel_rfl
@[simp] theorem sz46 : szOf Try.prog 46 = 1 := by kernel_rfl
@[simp] theorem sz54 : szOf Try.prog 54 = 2 := by kernel_rfl
@[simp] theorem sz60 : szOf Try.prog 60 = 2 := by kernel_rfl
@[simp] theorem sz62 : szOf Try.prog 62 = 1 := by kernel_rfl
@[simp] theorem sz69 : szOf Try.prog 69 = 1 := by kernel_rfl
@[simp] theorem sz71 : szOf Try.prog 71 = 2 := by kernel_rfl
@[simp] theorem sz75 : szOf Try.prog 75 = 2 := by kernel_rfl
@[simp] theorem sz78 : szOf Try.prog 78 = 1 := by kernel_rfl
@[simp] theorem sz80 : szOf Try.prog 80 = 2 := by kernel_rfl
@[simp] theorem sz81 : szOf Try.prog 81 = 1 := by kernel_rfl
@[simp] theorem sz83 : szOf Try.prog 83 = 5 := by kernel_rfl
@[simp] theorem sz85 : szOf Try.prog 85 = 5 := by kernel_rfl
@[simp] theorem sz86 : szOf Try.prog 86 = 1 := by kernel_rfl
@[simp] theorem sz88 : szOf Try.prog 88 = 5 := by kernel_rfl
@[simp] theorem sz90 : szOf Try.prog 90 = 5 := by kernel_rfl
@[simp] theorem sz95 : szOf Try.prog 95 = 1 := by kernel_rfl
@[simp] theorem sz100 : szOf Try.prog 100 = 1 := by kernel_rfl
@[simp] theorem sz102 : szOf Try.prog 102 = 2 := by kernel_rfl
@[simp] theorem sz106 : szOf Try.prog 106 = 1 := by kernel_rfl
@[simp] theorem sz108 : szOf Try.prog 108 = 1 := by kernel_rfl
@[simp] theorem sz110 : szOf Try.prog 110 = 5 := by kernel_rfl
@[simp] theorem sz115 : szOf Try.prog 115 = 5 := by kernel_rfl
@[simp] theorem sz132 : szOf Try.prog 132 = 4 := by kernel_rfl
@[simp] theorem sz137 : szOf Try.prog 137 = 3 := by kernel_rfl
@[simp] theorem sz139 : szOf Try.prog 139 = 2 := by kernel_rfl
@[simp] theorem sz141 : szOf Try.prog 141 = 4 := by kernel_rfl
@[simp] theorem sz148 : szOf Try.prog 148 = 3 := by kernel_rfl
@[simp] theorem sz151 : szOf Try.prog 151 = 2 := by kernel_rfl
@[simp] theorem sz155 : szOf Try.prog 155 = 3 := by kernel_rfl
@[simp] theorem un36 : Try.prog.underlying 36 = some (.slice 3) := by kernel_rfl
@[simp] theorem un37 : Try.prog.underlying 37 = some (.slice 137) := by kernel_rfl
@[simp] theorem un46 : Try.prog.underlying 46 = some (.slice 5) := by kernel_rfl
@[simp] theorem un69 : Try.prog.underlying 69 = some (.slice 132) := by kernel_rfl
@[simp] theorem un81 : Try.prog.underlying 81 = some (.slice 139) := by kernel_rfl
@[simp] theorem un95 : Try.prog.underlying 95 = some (.slice 141) := by kernel_rfl
@[simp] theorem un106 : Try.prog.underlying 106 = some (.slice 148) := by kernel_rfl
@[simp] theorem un108 : Try.prog.underlying 108 = some (.slice 151) := by kernel_rfl
@[simp] theorem un112 : Try.prog.underlying 112 = some (.slice 88) := by kernel_rfl
@[simp] theorem zero54 : zeroOf Try.prog 54 = some [.string (bs []), .int .i64 0] := by kernel_rfl
@[simp] theorem zero60 : zeroOf Try.prog 60 = some [.int .i64 0, .bool false] := by kernel_rfl
@[simp] theorem zero62 : zeroOf Try.prog 62 = some [.int .i64 0] := by kernel_rfl
@[simp] theorem zero64 : zeroOf Try.prog 64 = some [] := by kernel_rfl
@[simp] theorem zero66 : zeroOf Try.prog 66 = some [.slice none 0 0] := by kernel_rfl
@[simp] theorem zero71 : zeroOf Try.prog 71 = some [.int .i64 0, .slice none 0 0] := by kernel_rfl
@[simp] theorem zero75 : zeroOf Try.prog 75 = some [.int .i64 0, .int .u64 0] := by kernel_rfl
@[simp] theorem zero78 : zeroOf Try.prog 78 = some [.int .i64 0] := by kernel_rfl
@[simp] theorem zero80 : zeroOf Try.prog 80 = some [.int .i64 0, .int .i64 0] := by kernel_rfl
@[simp] theorem zero83 : zeroOf Try.prog 83 = some [.int .i64 0, .slice none 0 0, .int .i64 0, .int .i64 0, .slice none 0 0] := by kernel_rfl
@[simp] theorem zero85 : zeroOf Try.prog 85 = some [.int .i64 0, .slice none 0 0, .int .i64 0, .int .i64 0, .slice none 0 0] := by kernel_rfl
@[simp] theorem zero86 : zeroOf Try.prog 86 = some [.int .i64 0] := by kernel_rfl
@[simp] theorem zero88 : zeroOf Try.prog 88 = some [.int .i64 0, .int .i64 0, .int .u64 0, .int .i64 0, .string (bs [])] := by kernel_rfl
@[simp] theorem zero90 : zeroOf Try.prog 90 = some [.int .i64 0, .int .i64 0, .int .u64 0, .int .i64 0, .string (bs [])] := by kernel_rfl
@[simp] theorem zero98 : zeroOf Try.prog 98 = some [] := by kernel_rfl
@[simp] theorem zero102 : zeroOf Try.prog 102 = some [.int .u32 0, .int .i64 0] := by kernel_rfl
@[simp] theorem zero107 : zeroOf Try.prog 107 = some [.int .i64 0, .int .i64 0] := by kernel_rfl
@[simp] theorem zero110 : zeroOf Try.prog 110 = some [.int .i64 0, .slice none 0 0, .int .i64 0, .int .i64 0, .slice none 0 0] := by kernel_rfl
@[simp] theorem zero115 : zeroOf Try.prog 115 = some [.int .i64 0, .int .i64 0, .int .u64 0, .int .i64 0, .string (bs [])] := by kernel_rfl
@[simp] theorem zero117 : zeroOf Try.prog 117 = some [.string (bs []), .int .i64 0] := by kernel_rfl
@[simp] theorem zero132 : zeroOf Try.prog 132 = some [.int .i64 0, .int .i64 0, .int .i64 0, .int .i64 0] := by kernel_rfl
@[simp] theorem zero137 : zeroOf Try.prog 137 = some [.int .i64 0, .int .i64 0, .slice none 0 0] := by kernel_rfl
@[simp] theorem zero139 : zeroOf Try.prog 139 = some [.int .i64 0, .slice none 0 0] := by kernel_rfl
@[simp] theorem zero141 : zeroOf Try.prog 141 = some [.int .i64 0, .int .i64 0, .int .i64 0, .int .i64 0] := by kernel_rfl
@[simp] theorem zero148 : zeroOf Try.prog 148 = some [.int .i64 0, .int .i64 0, .slice none 0 0] := by kernel_rfl
@[simp] theorem zero151 : zeroOf Try.prog 151 = some [.int .i64 0, .slice none 0 0] := by kernel_rfl
@[simp] theorem zero155 : zeroOf Try.prog 155 = some [.int .i64 0, .int .i64 0, .int .u64 0] := by kernel_rfl
@[simp] theorem zt3 : zT Try.prog 3 = some (.v (.int .i64 0)) := by kernel_rfl
end Go.Proofs.Ytkggjmoghpmelaa.TL
