/- Facts on the program's types. -/
import Derived.Test.YtgkhedmjkahclaaTD
import Derived.Test.YtgkhedmjkahclaaProg
import Derived.KernelRfl
namespace Go.Proofs.Ytgkhedmjkahclaa.TL
open Go
@[simp] theorem ag2 : isAg Try.prog 2 = false := by kernel_rfl
@[simp] theorem ag3 : isAg Try.prog 3 = false := by kernel_rfl
@[simp] theorem ag9 : isAg Try.prog 9 = false := by kernel_rfl
@[simp] theorem ag22 : isAg Try.prog 22 = false := by kernel_rfl
@[simp] theorem ag23 : isAg Try.prog 23 = false := by kernel_rfl
@[simp] theorem ag25 : isAg Try.prog 25 = false := by kernel_rfl
@[simp] theorem ag26 : isAg Try.prog 26 = false := by kernel_rfl
@[simp] theorem ag29 : isAg Try.prog 29 = false := by kernel_rfl
@[simp] theorem ag31 : isAg Try.prog 31 = true := by kernel_rfl
@[simp] theorem ag33 : isAg Try.prog 33 = false := by kernel_rfl
@[simp] theorem ag34 : isAg Try.prog 34 = false := by kernel_rfl
@[simp] theorem ag36 : isAg Try.prog 36 = false := by kernel_rfl
@[simp] theorem ag37 : isAg Try.prog 37 = false := by kernel_rfl
@[simp] theorem ag39 : isAg Try.prog 39 = true := by kernel_rfl
@[simp] theorem ag40 : isAg Try.prog 40 = false := by kernel_rfl
@[simp] theorem ag43 : isAg Try.prog 43 = true := by kernel_rfl
@[simp] theorem ag50 : isAg Try.prog 50 = true := by kernel_rfl
@[simp] theorem ag51 : isAg Try.prog 51 = true := by kernel_rfl
@[simp] theorem ag53 : isAg Try.prog 53 = true := by kernel_rfl
@[simp] theorem ag56 : isAg Try.prog 56 = false := by kernel_rfl
@[simp] theorem ag60 : isAg Try.prog 60 = false := by kernel_rfl
@[simp] theorem ag64 : isAg Try.prog 64 = true := by kernel_rfl
@[simp] theorem ag67 : isAg Try.prog 67 = true := by kernel_rfl
@[simp] theorem ag69 : isAg Try.prog 69 = true := by kernel_rfl
@[simp] theorem ag70 : isAg Try.prog 70 = false := by kernel_rfl
@[simp] theorem ag72 : isAg Try.prog 72 = true := by kernel_rfl
@[simp] theorem ag86 : isAg Try.prog 86 = false := by kernel_rfl
@[simp] theorem ag90 : isAg Try.prog 90 = true := by kernel_rfl
@[simp] theorem ag94 : isAg Try.prog 94 = false := by kernel_rfl
@[simp] theorem ag98 : isAg Try.prog 98 = false := by kernel_rfl
@[simp] theorem ag103 : isAg Try.prog 103 = false := by kernel_rfl
@[simp] theorem ag107 : isAg Try.prog 107 = false := by kernel_rfl
@[simp] theorem ag109 : isAg Try.prog 109 = true := by kernel_rfl
@[simp] theorem ag111 : isAg Try.prog 111 = true := by kernel_rfl
@[simp] theorem ag112 : isAg Try.prog 112 = false := by kernel_rfl
@[simp] theorem ag124 : isAg Try.prog 124 = false := by kernel_rfl
@[simp] theorem ag128 : isAg Try.prog 128 = false := by kernel_rfl
@[simp] theorem ag130 : isAg Try.prog 130 = true := by kernel_rfl
@[simp] theorem ag133 : isAg Try.prog 133 = false := by kernel_rfl
@[simp] theorem ag135 : isAg Try.prog 135 = true := by kernel_rfl
@[simp] theorem ag143 : isAg Try.prog 143 = true := by kernel_rfl
@[simp] theorem ag157 : isAg Try.prog 157 = false := by kernel_rfl
@[simp] theorem ag161 : isAg Try.prog 161 = true := by kernel_rfl
@[simp] theorem ag187 : isAg Try.prog 187 = false := by kernel_rfl
@[simp] theorem ag190 : isAg Try.prog 190 = false := by kernel_rfl
@[simp] theorem ag198 : isAg Try.prog 198 = false := by kernel_rfl
@[simp] theorem ag211 : isAg Try.prog 211 = true := by kernel_rfl
@[simp] theorem ag213 : isAg Try.prog 213 = true := by kernel_rfl
@[simp] theorem ar9 : arrOf Try.prog 9 = none := by kernel_rfl
@[simp] theorem ar22 : arrOf Try.prog 22 = none := by kernel_rfl
@[simp] theorem ar23 : arrOf Try.prog 23 = none := by kernel_rfl
@[simp] theorem ar29 : arrOf Try.prog 29 = none := by kernel_rfl
@[simp] theorem ar34 : arrOf Try.prog 34 = none := by kernel_rfl
@[simp] theorem ar35 : arrOf Try.prog 35 = none := by kernel_rfl
@[simp] theorem ar36 : arrOf Try.prog 36 = none := by kernel_rfl
@[simp] theorem ar37 : arrOf Try.prog 37 = none := by kernel_rfl
@[simp] theorem ar40 : arrOf Try.prog 40 = none := by kernel_rfl
@[simp] theorem ar51 : arrOf Try.prog 51 = some (5, 1) := by kernel_rfl
@[simp] theorem ar57 : arrOf Try.prog 57 = some (6, 1) := by kernel_rfl
@[simp] theorem ar70 : arrOf Try.prog 70 = none := by kernel_rfl
@[simp] theorem ar80 : arrOf Try.prog 80 = none := by kernel_rfl
@[simp] theorem ar95 : arrOf Try.prog 95 = some (64, 1) := by kernel_rfl
@[simp] theorem ar124 : arrOf Try.prog 124 = none := by kernel_rfl
@[simp] theorem ar133 : arrOf Try.prog 133 = none := by kernel_rfl
@[simp] theorem ar157 : arrOf Try.prog 157 = none := by kernel_rfl
@[simp] theorem ar176 : arrOf Try.prog 176 = none := by kernel_rfl
@[simp] theorem ar183 : arrOf Try.prog 183 = none := by kernel_rfl
@[simp] theorem ar187 : arrOf Try.prog 187 = none := by kernel_rfl
@[simp] theorem ar213 : arrOf Try.prog 213 = some (7, 1) := by kernel_rfl
@[simp] theorem by2 : byOf Try.prog 2 = 8 := by kernel_rfl
@[simp] theorem by3 : byOf Try.prog 3 = 8 := by kernel_rfl
@[simp] theorem by5 : byOf Try.prog 5 = 1 := by kernel_rfl
@[simp] theorem by39 : byOf Try.prog 39 = 32 := by kernel_rfl
@[simp] theorem by43 : byOf Try.prog 43 = 32 := by kernel_rfl
@[simp] theorem by50 : byOf Try.prog 50 = 32 := by kernel_rfl
@[simp] theorem by53 : byOf Try.prog 53 = 48 := by kernel_rfl
@[simp] theorem by72 : byOf Try.prog 72 = 40 := by kernel_rfl
@[simp] theorem by109 : byOf Try.prog 109 = 16 := by kernel_rfl
@[simp] theorem by111 : byOf Try.prog 111 = 32 := by kernel_rfl
@[simp] theorem by190 : byOf Try.prog 190 = 8 := by kernel_rfl
@[simp] theorem cc101 : Try.prog.concrete 101 = true := by kernel_rfl
@[simp] theorem el9 : elemOf Try.prog 9 = none := by kernel_rfl
@[simp] theorem el22 : elemOf Try.prog 22 = some 1 := by kernel_rfl
@[simp] theorem el23 : elemOf Try.prog 23 = some 1 := by kernel_rfl
@[simp] theorem el29 : elemOf Try.prog 29 = some 3 := by kernel_rfl
@[simp] theorem el34 : elemOf Try.prog 34 = some 2 := by kernel_rfl
@[simp] theorem el35 : elemOf Try.prog 35 = some 2 := by kernel_rfl
@[simp] theorem el36 : elemOf Try.prog 36 = some 4 := by kernel_rfl
@[simp] theorem el37 : elemOf Try.prog 37 = some 4 := by kernel_rfl
@[simp] theorem el40 : elemOf Try.prog 40 = some 4 := by kernel_rfl
@[simp] theorem el51 : elemOf Try.prog 51 = none := by kernel_rfl
@[simp] theorem el57 : elemOf Try.prog 57 = none := by kernel_rfl
@[simp] theorem el70 : elemOf Try.prog 70 = some 2 := by kernel_rfl
@[simp] theorem el80 : elemOf Try.prog 80 = some 1 := by kernel_rfl
@[simp] theorem el95 : elemOf Try.prog 95 = none := by kernel_rfl
@[simp] theorem el112 : elemOf Try.prog 112 = some 1 := by kernel_rfl
@[simp] theorem el124 : elemOf Try.prog 124 = some 6 := by kernel_rfl
@[simp] theorem el133 : elemOf Try.prog 133 = some 3 := by kernel_rfl
@[simp] theorem el157 : elemOf Try.prog 157 = some 1 := by kernel_rfl
@[simp] theorem el176 : elemOf Try.prog 176 = some 1 := by kernel_rfl
@[simp] theorem el183 : elemOf Try.prog 183 = some 1 := by kernel_rfl
@[simp] theorem el187 : elemOf Try.prog 187 = some 1 := by kernel_rfl
@[simp] theorem el213 : elemOf Try.prog 213 = none := by kernel_rfl
@[simp] theorem sc2 : scal Try.prog 2 = some 0 := by kernel_rfl
@[simp] theorem sc3 : scal Try.prog 3 = some 0 := by kernel_rfl
@[simp] theorem sc4 : scal Try.prog 4 = some 2 := by kernel_rfl
@[simp] theorem sc5 : scal Try.prog 5 = some 0 := by kernel_rfl
@[simp] theorem sc9 : scal Try.prog 9 = some 1 := by kernel_rfl
@[simp] theorem pt25 : isPtr Try.prog 25 = true := by kernel_rfl
@[simp] theorem sc26 : scal Try.prog 26 = some 0 := by kernel_rfl
@[simp] theorem sc33 : scal Try.prog 33 = some 0 := by kernel_rfl
@[simp] theorem eq51 : eqOf Try.prog 51 = some [(0, 0), (1, 0), (2, 0), (3, 0), (4, 0)] := by kernel_rfl
@[simp] theorem eq53 : eqOf Try.prog 53 = some [(0, 0), (1, 0), (2, 0), (3, 0), (4, 0), (5, 0)] := by kernel_rfl
@[simp] theorem pt56 : isPtr Try.prog 56 = true := by kernel_rfl
@[simp] theorem eq67 : eqOf Try.prog 67 = some [(0, 0), (1, 0)] := by kernel_rfl
@[simp] theorem pt73 : isPtr Try.prog 73 = true := by kernel_rfl
@[simp] theorem sc86 : scal Try.prog 86 = some 0 := by kernel_rfl
@[simp] theorem sc107 : scal Try.prog 107 = some 0 := by kernel_rfl
@[simp] theorem is124 : isSlice Try.prog 124 = true := by kernel_rfl
@[simp] theorem sc128 : scal Try.prog 128 = some 0 := by kernel_rfl
@[simp] theorem is157 : isSlice Try.prog 157 = true := by kernel_rfl
@[simp] theorem fd31_0 : fieldOf Try.prog 31 0 = some (0, 1, false) := by kernel_rfl
@[simp] theorem fd39_0 : fieldOf Try.prog 39 0 = some (0, 1, false) := by kernel_rfl
@[simp] theorem fd39_1 : fieldOf Try.prog 39 1 = some (1, 1, false) := by kernel_rfl
@[simp] theorem fd43_0 : fieldOf Try.prog 43 0 = some (0, 1, false) := by kernel_rfl
@[simp] theorem fd43_1 : fieldOf Try.prog 43 1 = some (1, 1, false) := by kernel_rfl
@[simp] theorem fd50_0 : fieldOf Try.prog 50 0 = some (0, 1, false) := by kernel_rfl
@[simp] theorem fd50_1 : fieldOf Try.prog 50 1 = some (1, 1, false) := by kernel_rfl
@[simp] theorem fd50_2 : fieldOf Try.prog 50 2 = some (2, 1, false) := by kernel_rfl
@[simp] theorem fd50_3 : fieldOf Try.prog 50 3 = some (3, 1, false) := by kernel_rfl
@[simp] theorem fd53_0 : fieldOf Try.prog 53 0 = some (0, 1, false) := by kernel_rfl
@[simp] theorem fd53_1 : fieldOf Try.prog 53 1 = some (1, 5, true) := by kernel_rfl
@[simp] theorem fd59_0 : fieldOf Try.prog 59 0 = some (0, 1, false) := by kernel_rfl
@[simp] theorem fd59_1 : fieldOf Try.prog 59 1 = some (1, 6, true) := by kernel_rfl
@[simp] theorem fd62_0 : fieldOf Try.prog 62 0 = some (0, 1, false) := by kernel_rfl
@[simp] theorem fd62_1 : fieldOf Try.prog 62 1 = some (1, 7, true) := by kernel_rfl
@[simp] theorem fd62_2 : fieldOf Try.prog 62 2 = some (8, 1, false) := by kernel_rfl
@[simp] theorem fd62_3 : fieldOf Try.prog 62 3 = some (9, 1, false) := by kernel_rfl
@[simp] theorem fd62_4 : fieldOf Try.prog 62 4 = some (10, 1, false) := by kernel_rfl
@[simp] theorem fd64_1 : fieldOf Try.prog 64 1 = some (1, 5, true) := by kernel_rfl
@[simp] theorem fd67_0 : fieldOf Try.prog 67 0 = some (0, 1, false) := by kernel_rfl
@[simp] theorem fd67_1 : fieldOf Try.prog 67 1 = some (1, 1, false) := by kernel_rfl
@[simp] theorem fd69_0 : fieldOf Try.prog 69 0 = some (0, 1, true) := by kernel_rfl
@[simp] theorem fd69_1 : fieldOf Try.prog 69 1 = some (1, 1, false) := by kernel_rfl
@[simp] theorem fd69_2 : fieldOf Try.prog 69 2 = some (2, 1, false) := by kernel_rfl
@[simp] theorem fd69_3 : fieldOf Try.prog 69 3 = some (3, 2, true) := by kernel_rfl
@[simp] theorem fd72_0 : fieldOf Try.prog 72 0 = some (0, 1, false) := by kernel_rfl
@[simp] theorem fd72_1 : fieldOf Try.prog 72 1 = some (1, 1, false) := by kernel_rfl
@[simp] theorem fd72_2 : fieldOf Try.prog 72 2 = some (2, 1, false) := by kernel_rfl
@[simp] theorem fd77_0 : fieldOf Try.prog 77 0 = some (0, 1, false) := by kernel_rfl
@[simp] theorem fd77_1 : fieldOf Try.prog 77 1 = some (1, 1, false) := by kernel_rfl
@[simp] theorem fd97_0 : fieldOf Try.prog 97 0 = some (0, 64, true) := by kernel_rfl
@[simp] theorem fd101_0 : fieldOf Try.prog 101 0 = some (0, 1, false) := by kernel_rfl
@[simp] theorem fd105_0 : fieldOf Try.prog 105 0 = some (0, 1, false) := by kernel_rfl
@[simp] theorem fd105_1 : fieldOf Try.prog 105 1 = some (1, 1, false) := by kernel_rfl
@[simp] theorem fd105_2 : fieldOf Try.prog 105 2 = some (2, 1, true) := by kernel_rfl
@[simp] theorem fd105_3 : fieldOf Try.prog 105 3 = some (3, 1, false) := by kernel_rfl
@[simp] theorem fd109_0 : fieldOf Try.prog 109 0 = some (0, 1, false) := by kernel_rfl
@[simp] theorem fd109_1 : fieldOf Try.prog 109 1 = some (1, 1, false) := by kernel_rfl
@[simp] theorem fd111_0 : fieldOf Try.prog 111 0 = some (0, 1, false) := by kernel_rfl
@[simp] theorem fd111_1 : fieldOf Try.prog 111 1 = some (1, 1, false) := by kernel_rfl
@[simp] theorem fd111_2 : fieldOf Try.prog 111 2 = some (2, 1, false) := by kernel_rfl
@[simp] theorem fd111_3 : fieldOf Try.prog 111 3 = some (3, 1, false) := by kernel_rfl
@[simp] theorem fd114_0 : fieldOf Try.prog 114 0 = some (0, 1, false) := by kernel_rfl
@[simp] theorem fd126_0 : fieldOf Try.prog 126 0 = some (0, 1, false) := by kernel_rfl
@[simp] theorem fd126_1 : fieldOf Try.prog 126 1 = some (1, 1, false) := by kernel_rfl
@[simp] theorem fd130_0 : fieldOf Try.prog 130 0 = some (0, 1, false) := by kernel_rfl
@[simp] theorem fd130_1 : fieldOf Try.prog 130 1 = some (1, 1, false) := by kernel_rfl
@[simp] theorem fd132_0 : fieldOf Try.prog 132 0 = some (0, 1, false) := by kernel_rfl
@[simp] theorem fd132_2 : fieldOf Try.prog 132 2 = some (2, 2, true) := by kernel_rfl
@[simp] theorem fd132_3 : fieldOf Try.prog 132 3 = some (4, 2, true) := by kernel_rfl
@[simp] theorem fd135_0 : fieldOf Try.prog 135 0 = some (0, 1, false) := by kernel_rfl
@[simp] theorem fd135_1 : fieldOf Try.prog 135 1 = some (1, 1, false) := by kernel_rfl
@[simp] theorem fd135_2 : fieldOf Try.prog 135 2 = some (2, 2, true) := by kernel_rfl
@[simp] theorem fd135_3 : fieldOf Try.prog 135 3 = some (4, 1, false) := by kernel_rfl
@[simp] theorem fd143_0 : fieldOf Try.prog 143 0 = some (0, 1, false) := by kernel_rfl
@[simp] theorem fd156_0 : fieldOf Try.prog 156 0 = some (0, 1, false) := by kernel_rfl
@[simp] theorem fd161_0 : fieldOf Try.prog 161 0 = some (0, 1, false) := by kernel_rfl
@[simp] theorem fd161_2 : fieldOf Try.prog 161 2 = some (2, 1, false) := by kernel_rfl
@[simp] theorem fd171_0 : fieldOf Try.prog 171 0 = some (0, 1, false) := by kernel_rfl
@[simp] theorem fd171_1 : fieldOf Try.prog 171 1 = some (1, 1, false) := by kernel_rfl
@[simp] theorem fd189_0 : fieldOf Try.prog 189 0 = some (0, 1, false) := by kernel_rfl
@[simp] theorem fd189_1 : fieldOf Try.prog 189 1 = some (1, 1, false) := by kernel_rfl
@[simp] theorem fd189_2 : fieldOf Try.prog 189 2 = some (2, 1, false) := by kernel_rfl
@[simp] theorem fd189_3 : fieldOf Try.prog 189 3 = some (3, 1, false) := by kernel_rfl
@[simp] theorem fd200_0 : fieldOf Try.prog 200 0 = some (0, 1, false) := by kernel_rfl
@[simp] theorem fd202_0 : fieldOf Try.prog 202 0 = some (0, 1, false) := by kernel_rfl
@[simp] theorem fd202_1 : fieldOf Try.prog 202 1 = some (1, 1, false) := by kernel_rfl
@[simp] theorem fd202_2 : fieldOf Try.prog 202 2 = some (2, 1, false) := by kernel_rfl
@[simp] theorem fd202_3 : fieldOf Try.prog 202 3 = some (3, 1, false) := by kernel_rfl
@[simp] theorem fd211_0 : fieldOf Try.prog 211 0 = some (0, 1, false) := by kernel_rfl
@[simp] theorem fd211_1 : fieldOf Try.prog 211 1 = some (1, 1, false) := by kernel_rfl
@[simp] theorem fd211_2 : fieldOf Try.prog 211 2 = some (2, 1, false) := by kernel_rfl
@[simp] theorem hu2 : hasU Try.prog 2 = true := by kernel_rfl
@[simp] theorem hu3 : hasU Try.prog 3 = true := by kernel_rfl
@[simp] theorem hu5 : hasU Try.prog 5 = true := by kernel_rfl
@[simp] theorem hu9 : hasU Try.prog 9 = true := by kernel_rfl
@[simp] theorem hu22 : hasU Try.prog 22 = true := by kernel_rfl
@[simp] theorem hu23 : hasU Try.prog 23 = true := by kernel_rfl
@[simp] theorem hu25 : hasU Try.prog 25 = true := by kernel_rfl
@[simp] theorem hu26 : hasU Try.prog 26 = true := by kernel_rfl
@[simp] theorem hu29 : hasU Try.prog 29 = true := by kernel_rfl
@[simp] theorem hu31 : hasU Try.prog 31 = true := by kernel_rfl
@[simp] theorem hu33 : hasU Try.prog 33 = true := by kernel_rfl
@[simp] theorem hu34 : hasU Try.prog 34 = true := by kernel_rfl
@[simp] theorem hu36 : hasU Try.prog 36 = true := by kernel_rfl
@[simp] theorem hu37 : hasU Try.prog 37 = true := by kernel_rfl
@[simp] theorem hu39 : hasU Try.prog 39 = true := by kernel_rfl
@[simp] theorem hu40 : hasU Try.prog 40 = true := by kernel_rfl
@[simp] theorem hu43 : hasU Try.prog 43 = true := by kernel_rfl
@[simp] theorem hu50 : hasU Try.prog 50 = true := by kernel_rfl
@[simp] theorem hu51 : hasU Try.prog 51 = true := by kernel_rfl
@[simp] theorem hu53 : hasU Try.prog 53 = true := by kernel_rfl
@[simp] theorem hu56 : hasU Try.prog 56 = true := by kernel_rfl
@[simp] theorem hu60 : hasU Try.prog 60 = true := by kernel_rfl
@[simp] theorem hu64 : hasU Try.prog 64 = true := by kernel_rfl
@[simp] theorem hu67 : hasU Try.prog 67 = true := by kernel_rfl
@[simp] theorem hu69 : hasU Try.prog 69 = true := by kernel_rfl
@[simp] theorem hu70 : hasU Try.prog 70 = true := by kernel_rfl
@[simp] theorem hu72 : hasU Try.prog 72 = true := by kernel_rfl
@[simp] theorem hu86 : hasU Try.prog 86 = true := by kernel_rfl
@[simp] theorem hu90 : hasU Try.prog 90 = true := by kernel_rfl
@[simp] theorem hu94 : hasU Try.prog 94 = true := by kernel_rfl
@[simp] theorem hu98 : hasU Try.prog 98 = true := by kernel_rfl
@[simp] theorem hu103 : hasU Try.prog 103 = true := by kernel_rfl
@[simp] theorem hu107 : hasU Try.prog 107 = true := by kernel_rfl
@[simp] theorem hu109 : hasU Try.prog 109 = true := by kernel_rfl
@[simp] theorem hu111 : hasU Try.prog 111 = true := by kernel_rfl
@[simp] theorem hu112 : hasU Try.prog 112 = true := by kernel_rfl
@[simp] theorem hu124 : hasU Try.prog 124 = true := by kernel_rfl
@[simp] theorem hu128 : hasU Try.prog 128 = true := by kernel_rfl
@[simp] theorem hu130 : hasU Try.prog 130 = true := by kernel_rfl
@[simp] theorem hu133 : hasU Try.prog 133 = true := by kernel_rfl
@[simp] theorem hu135 : hasU Try.prog 135 = true := by kernel_rfl
@[simp] theorem hu143 : hasU Try.prog 143 = true := by kernel_rfl
@[simp] theorem hu157 : hasU Try.prog 157 = true := by kernel_rfl
@[simp] theorem hu161 : hasU Try.prog 161 = true := by kernel_rfl
@[simp] theorem hu184 : hasU Try.prog 184 = true := by kernel_rfl
@[simp] theorem hu187 : hasU Try.prog 187 = true := by kernel_rfl
@[simp] theorem hu190 : hasU Try.prog 190 = true := by kernel_rfl
@[simp] theorem hu198 : hasU Try.prog 198 = true := by kernel_rfl
@[simp] theorem hu211 : hasU Try.prog 211 = true := by kernel_rfl
@[simp] theorem hu213 : hasU Try.prog 213 = true := by kernel_rfl
@[simp] theorem kd2 : kdOf Try.prog 2 = .int .i64 := by kernel_rfl
@[simp] theorem kd3 : kdOf Try.prog 3 = .int .i64 := by kernel_rfl
@[simp] theorem kd5 : kdOf Try.prog 5 = .int .u8 := by kernel_rfl
@[simp] theorem kd9 : kdOf Try.prog 9 = .str := by kernel_rfl
@[simp] theorem kd22 : kdOf Try.prog 22 = .other := by kernel_rfl
@[simp] theorem kd23 : kdOf Try.prog 23 = .other := by kernel_rfl
@[simp] theorem kd29 : kdOf Try.prog 29 = .other := by kernel_rfl
@[simp] theorem kd33 : kdOf Try.prog 33 = .int .u64 := by kernel_rfl
@[simp] theorem kd34 : kdOf Try.prog 34 = .other := by kernel_rfl
@[simp] theorem kd35 : kdOf Try.prog 35 = .other := by kernel_rfl
@[simp] theorem kd36 : kdOf Try.prog 36 = .other := by kernel_rfl
@[simp] theorem kd37 : kdOf Try.prog 37 = .other := by kernel_rfl
@[simp] theorem kd40 : kdOf Try.prog 40 = .other := by kernel_rfl
@[simp] theorem kd51 : kdOf Try.prog 51 = .other := by kernel_rfl
@[simp] theorem kd57 : kdOf Try.prog 57 = .other := by kernel_rfl
@[simp] theorem kd70 : kdOf Try.prog 70 = .other := by kernel_rfl
@[simp] theorem kd80 : kdOf Try.prog 80 = .other := by kernel_rfl
@[simp] theorem kd95 : kdOf Try.prog 95 = .other := by kernel_rfl
@[simp] theorem kd107 : kdOf Try.prog 107 = .int .u8 := by kernel_rfl
@[simp] theorem kd112 : kdOf Try.prog 112 = .bytes := by kernel_rfl
@[simp] theorem kd124 : kdOf Try.prog 124 = .other := by kernel_rfl
@[simp] theorem kd133 : kdOf Try.prog 133 = .other := by kernel_rfl
@[simp] theorem kd157 : kdOf Try.prog 157 = .other := by kernel_rfl
@[simp] theorem kd176 : kdOf Try.prog 176 = .other := by kernel_rfl
@[simp] theorem kd177 : kdOf Try.prog 177 = .int .u64 := by kernel_rfl
@[simp] theorem kd183 : kdOf Try.prog 183 = .other := by kernel_rfl
@[simp] theorem kd184 : kdOf Try.prog 184 = .int .u64 := by kernel_rfl
@[simp] theorem kd187 : kdOf Try.prog 187 = .other := by kernel_rfl
@[simp] theorem me101_Do : methOf Try.prog 101 "Do" = some 138 := by kernel_rfl
@[simp] theorem plc31 : plcOf Try.prog 31 = some [(0, 1)] := by kernel_rfl
@[simp] theorem plc39 : plcOf Try.prog 39 = some [(0, 1), (1, 1)] := by kernel_rfl
@[simp] theorem plc43 : plcOf Try.prog 43 = some [(0, 1), (1, 1)] := by kernel_rfl
@[simp] theorem plc50 : plcOf Try.prog 50 = some [(0, 1), (1, 1), (2, 1), (3, 1)] := by kernel_rfl
@[simp] theorem plc51 : plcOf Try.prog 51 = some [(0, 1), (1, 1), (2, 1), (3, 1), (4, 1)] := by kernel_rfl
@[simp] theorem plc53 : plcOf Try.prog 53 = some [(0, 1), (1, 5)] := by kernel_rfl
@[simp] theorem plc62 : plcOf Try.prog 62 = some [(0, 1), (1, 7), (8, 1), (9, 1), (10, 1)] := by kernel_rfl
@[simp] theorem plc67 : plcOf Try.prog 67 = some [(0, 1), (1, 1)] := by kernel_rfl
@[simp] theorem plc69 : plcOf Try.prog 69 = some [(0, 1), (1, 1), (2, 1), (3, 2)] := by kernel_rfl
@[simp] theorem plc72 : plcOf Try.prog 72 = some [(0, 1), (1, 1), (2, 1)] := by kernel_rfl
@[simp] theorem plc77 : plcOf Try.prog 77 = some [(0, 1), (1, 1)] := by kernel_rfl
@[simp] theorem plc90 : plcOf Try.prog 90 = some [(0, 1), (1, 1)] := by kernel_rfl
@[simp] theorem plc97 : plcOf Try.prog 97 = some [(0, 64)] := by kernel_rfl
@[simp] theorem plc101 : plcOf Try.prog 101 = some [(0, 1)] := by kernel_rfl
@[simp] theorem plc105 : plcOf Try.prog 105 = some [(0, 1), (1, 1), (2, 1), (3, 1)] := by kernel_rfl
@[simp] theorem plc109 : plcOf Try.prog 109 = some [(0, 1), (1, 1)] := by kernel_rfl
@[simp] theorem plc126 : plcOf Try.prog 126 = some [(0, 1), (1, 1)] := by kernel_rfl
@[simp] theorem plc132 : plcOf Try.prog 132 = some [(0, 1), (1, 1), (2, 2), (4, 2)] := by kernel_rfl
@[simp] theorem plc135 : plcOf Try.prog 135 = some [(0, 1), (1, 1), (2, 2), (4, 1)] := by kernel_rfl
@[simp] theorem plc143 : plcOf Try.prog 143 = some [(0, 1), (1, 1)] := by kernel_rfl
@[simp] theorem plc156 : plcOf Try.prog 156 = some [(0, 1)] := by kernel_rfl
@[simp] theorem plc161 : plcOf Try.prog 161 = some [(0, 1), (1, 1), (2, 1)] := by kernel_rfl
@[simp] theorem plc171 : plcOf Try.prog 171 = some [(0, 1), (1, 1)] := by kernel_rfl
@[simp] theorem plc189 : plcOf Try.prog 189 = some [(0, 1), (1, 1), (2, 1), (3, 1)] := by kernel_rfl
@[simp] theorem plc200 : plcOf Try.prog 200 = some [(0, 1)] := by kernel_rfl
@[simp] theorem plc202 : plcOf Try.prog 202 = some [(0, 1), (1, 1), (2, 1), (3, 1)] := by kernel_rfl
@[simp] theorem plc213 : plcOf Try.prog 213 = some [(0, 1), (1, 1), (2, 1), (3, 1), (4, 1), (5, 1), (6, 1)] := by kernel_rfl
@[simp] theorem sz2 : szOf Try.prog 2 = 1 := by kernel_rfl
@[simp] theorem sz3 : szOf Try.prog 3 = 1 := by kernel_rfl
@[simp] theorem sz9 : szOf Try.prog 9 = 1 := by kernel_rfl
@[simp] theorem sz22 : szOf Try.prog 22 = 1 := by kernel_rfl
@[simp] theorem sz23 : szOf Try.prog 23 = 1 := by kernel_rfl
@[simp] theorem sz25 : szOf Try.prog 25 = 1 := by kernel_rfl
@[simp] theorem sz26 : szOf Try.prog 26 = 1 := by kernel_rfl
@[simp] theorem sz29 : szOf Try.prog 29 = 1 := by kernel_rfl
@[simp] theorem sz31 : szOf Try.prog 31 = 1 := by kernel_rfl
@[simp] theorem sz33 : szOf Try.prog 33 = 1 := by kernel_rfl
@[simp] theorem sz34 : szOf Try.prog 34 = 1 := by kernel_rfl
@[simp] theorem sz36 : szOf Try.prog 36 = 1 := by kernel_rfl
@[simp] theorem sz37 : szOf Try.prog 37 = 1 := by kernel_rfl
@[simp] theorem sz39 : szOf Try.prog 39 = 2 := by kernel_rfl
@[simp] theorem sz40 : szOf Try.prog 40 = 1 := by kernel_rfl
@[simp] theorem sz43 : szOf Try.prog 43 = 2 := by kernel_rfl
@[simp] theorem sz50 : szOf Try.prog 50 = 4 := by kernel_rfl
@[simp] theorem sz51 : szOf Try.prog 51 = 5 := by kernel_rfl
@[simp] theorem sz53 : szOf Try.prog 53 = 6 := by kernel_rfl
@[simp] theorem sz56 : szOf Try.prog 56 = 1 := by kernel_rfl
@[simp] theorem sz60 : szOf Try.prog 60 = 1 := by kernel_rfl
@[simp] theorem sz64 : szOf Try.prog 64 = 6 := by kernel_rfl
@[simp] theorem sz67 : szOf Try.prog 67 = 2 := by kernel_rfl
@[simp] theorem sz69 : szOf Try.prog 69 = 5 := by kernel_rfl
@[simp] theorem sz70 : szOf Try.prog 70 = 1 := by kernel_rfl
@[simp] theorem sz72 : szOf Try.prog 72 = 3 := by kernel_rfl
@[simp] theorem sz86 : szOf Try.prog 86 = 1 := by kernel_rfl
@[simp] theorem sz90 : szOf Try.prog 90 = 2 := by kernel_rfl
@[simp] theorem sz94 : szOf Try.prog 94 = 1 := by kernel_rfl
@[simp] theorem sz98 : szOf Try.prog 98 = 1 := by kernel_rfl
@[simp] theorem sz103 : szOf Try.prog 103 = 1 := by kernel_rfl
@[simp] theorem sz107 : szOf Try.prog 107 = 1 := by kernel_rfl
@[simp] theorem sz109 : szOf Try.prog 109 = 2 := by kernel_rfl
@[simp] theorem sz111 : szOf Try.prog 111 = 4 := by kernel_rfl
@[simp] theorem sz112 : szOf Try.prog 112 = 1 := by kernel_rfl
@[simp] theorem sz124 : szOf Try.prog 124 = 1 := by kernel_rfl
@[simp] theorem sz128 : szOf Try.prog 128 = 1 := by kernel_rfl
@[simp] theorem sz130 : szOf Try.prog 130 = 2 := by kernel_rfl
@[simp] theorem sz133 : szOf Try.prog 133 = 1 := by kernel_rfl
@[simp] theorem sz135 : szOf Try.prog 135 = 5 := by kernel_rfl
@[simp] theorem sz143 : szOf Try.prog 143 = 2 := by kernel_rfl
@[simp] theorem sz157 : szOf Try.prog 157 = 1 := by kernel_rfl
@[simp] theorem sz161 : szOf Try.prog 161 = 3 := by kernel_rfl
@[simp] theorem sz187 : szOf Try.prog 187 = 1 := by kernel_rfl
@[simp] theorem sz190 : szOf Try.prog 190 = 1 := by kernel_rfl
@[simp] theorem sz198 : szOf Try.prog 198 = 1 := by kernel_rfl
@[simp] theorem sz211 : szOf Try.prog 211 = 3 := by kernel_rfl
@[simp] theorem sz213 : szOf Try.prog 213 = 7 := by kernel_rfl
@[simp] theorem un22 : Try.prog.underlying 22 = some (.slice 3) := by kernel_rfl
@[simp] theorem un29 : Try.prog.underlying 29 = some (.slice 72) := by kernel_rfl
@[simp] theorem un34 : Try.prog.underlying 34 = some (.slice 39) := by kernel_rfl
@[simp] theorem un35 : Try.prog.underlying 35 = some (.slice 43) := by kernel_rfl
@[simp] theorem un37 : Try.prog.underlying 37 = some (.slice 50) := by kernel_rfl
@[simp] theorem un40 : Try.prog.underlying 40 = some (.slice 111) := by kernel_rfl
@[simp] theorem un70 : Try.prog.underlying 70 = some (.slice 109) := by kernel_rfl
@[simp] theorem un112 : Try.prog.underlying 112 = some (.slice 5) := by kernel_rfl
@[simp] theorem un124 : Try.prog.underlying 124 = some (.slice 53) := by kernel_rfl
@[simp] theorem un157 : Try.prog.underlying 157 = some (.slice 2) := by kernel_rfl
@[simp] theorem un187 : Try.prog.underlying 187 = some (.slice 190) := by kernel_rfl
@[simp] theorem zero2 : zeroOf Try.prog 2 = some [.int .i64 0] := by kernel_rfl
@[simp] theorem zero3 : zeroOf Try.prog 3 = some [.int .i64 0] := by kernel_rfl
@[simp] theorem zero31 : zeroOf Try.prog 31 = some [.slice none 0 0] := by kernel_rfl
@[simp] theorem zero39 : zeroOf Try.prog 39 = some [.int .i64 0, .slice none 0 0] := by kernel_rfl
@[simp] theorem zero43 : zeroOf Try.prog 43 = some [.int .i64 0, .slice none 0 0] := by kernel_rfl
@[simp] theorem zero50 : zeroOf Try.prog 50 = some [.int .i64 0, .int .i64 0, .int .i64 0, .int .i64 0] := by kernel_rfl
@[simp] theorem zero51 : zeroOf Try.prog 51 = some [.int .i64 0, .int .i64 0, .int .i64 0, .int .i64 0, .int .i64 0] := by kernel_rfl
@[simp] theorem zero53 : zeroOf Try.prog 53 = some [.int .i64 0, .int .i64 0, .int .i64 0, .int .i64 0, .int .i64 0, .int .i64 0] := by kernel_rfl
@[simp] theorem zero62 : zeroOf Try.prog 62 = some [.pointer none, .int .i64 0, .int .i64 0, .int .i64 0, .int .i64 0, .int .i64 0, .int .i64 0, .int .i64 0, .pointer none, .int .i64 0, .int .i64 0] := by kernel_rfl
@[simp] theorem zero64 : zeroOf Try.prog 64 = some [.int .i64 0, .int .i64 0, .int .i64 0, .int .i64 0, .int .i64 0, .int .i64 0] := by kernel_rfl
@[simp] theorem zero67 : zeroOf Try.prog 67 = some [.int .i64 0, .int .i64 0] := by kernel_rfl
@[simp] theorem zero69 : zeroOf Try.prog 69 = some [.slice none 0 0, .int .u64 0, .slice none 0 0, .int .i64 0, .int .i64 0] := by kernel_rfl
@[simp] theorem zero72 : zeroOf Try.prog 72 = some [.int .i64 0, .int .i64 0, .slice none 0 0] := by kernel_rfl
@[simp] theorem zero77 : zeroOf Try.prog 77 = some [.int .i64 0, .int .i64 0] := by kernel_rfl
@[simp] theorem zero90 : zeroOf Try.prog 90 = some [.int .i64 0, .int .i64 0] := by kernel_rfl
@[simp] theorem zero97 : zeroOf Try.prog 97 = some [.int .i64 0, .int .i64 0, .int .i64 0, .int .i64 0, .int .i64 0, .int .i64 0, .int .i64 0, .int .i64 0, .int .i64 0, .int .i64 0, .int .i64 0, .int .i64 0, .int .i64 0, .int .i64 0, .int .i64 0, .int .i64 0, .int .i64 0, .int .i64 0, .int .i64 0, .int .i64 0, .int .i64 0, .int .i64 0, .int .i64 0, .int .i64 0, .int .i64 0, .int .i64 0, .int .i64 0, .int .i64 0, .int .i64 0, .int .i64 0, .int .i64 0, .int .i64 0, .int .i64 0, .int .i64 0, .int .i64 0, .int .i64 0, .int .i64 0, .int .i64 0, .int .i64 0, .int .i64 0, .int .i64 0, .int .i64 0, .int .i64 0, .int .i64 0, .int .i64 0, .int .i64 0, .int .i64 0, .int .i64 0, .int .i64 0, .int .i64 0, .int .i64 0, .int .i64 0, .int .i64 0, .int .i64 0, .int .i64 0, .int .i64 0, .int .i64 0, .int .i64 0, .int .i64 0, .int .i64 0, .int .i64 0, .int .i64 0, .int .i64 0, .int .i64 0] := by kernel_rfl
@[simp] theorem zero101 : zeroOf Try.prog 101 = some [.pointer none] := by kernel_rfl
@[simp] theorem zero105 : zeroOf Try.prog 105 = some [.pointer none, .pointer none, .slice none 0 0, .nilIface] := by kernel_rfl
@[simp] theorem zero109 : zeroOf Try.prog 109 = some [.int .u8 0, .int .i64 0] := by kernel_rfl
@[simp] theorem zero111 : zeroOf Try.prog 111 = some [.int .i64 0, .int .i64 0, .int .i64 0, .int .i64 0] := by kernel_rfl
@[simp] theorem zero114 : zeroOf Try.prog 114 = some [.slice none 0 0] := by kernel_rfl
@[simp] theorem zero126 : zeroOf Try.prog 126 = some [.slice none 0 0, .int .i64 0] := by kernel_rfl
@[simp] theorem zero130 : zeroOf Try.prog 130 = some [.int .u32 0, .int .i64 0] := by kernel_rfl
@[simp] theorem zero132 : zeroOf Try.prog 132 = some [.pointer none, .slice none 0 0, .int .u32 0, .int .i64 0, .int .i64 0, .int .i64 0] := by kernel_rfl
@[simp] theorem zero135 : zeroOf Try.prog 135 = some [.int .i64 0, .slice none 0 0, .int .i64 0, .int .i64 0, .slice none 0 0] := by kernel_rfl
@[simp] theorem zero143 : zeroOf Try.prog 143 = some [.slice none 0 0, .int .i64 0] := by kernel_rfl
@[simp] theorem zero156 : zeroOf Try.prog 156 = some [.int .u64 0] := by kernel_rfl
@[simp] theorem zero161 : zeroOf Try.prog 161 = some [.int .i64 0, .int .i64 0, .int .i64 0] := by kernel_rfl
@[simp] theorem zero171 : zeroOf Try.prog 171 = some [.string (bs []), .int .i64 0] := by kernel_rfl
@[simp] theorem zero189 : zeroOf Try.prog 189 = some [.pointer none, .slice none 0 0, .int .i64 0, .int .i64 0] := by kernel_rfl
@[simp] theorem zero200 : zeroOf Try.prog 200 = some [.slice none 0 0] := by kernel_rfl
@[simp] theorem zero202 : zeroOf Try.prog 202 = some [.pointer none, .int .i64 0, .int .i64 0, .slice none 0 0] := by kernel_rfl
@[simp] theorem zero211 : zeroOf Try.prog 211 = some [.int .i64 0, .int .i64 0, .slice none 0 0] := by kernel_rfl
@[simp] theorem zero213 : zeroOf Try.prog 213 = some [.int .i64 0, .int .i64 0, .int .i64 0, .int .i64 0, .int .i64 0, .int .i64 0, .int .i64 0] := by kernel_rfl
end Go.Proofs.Ytgkhedmjkahclaa.TL
