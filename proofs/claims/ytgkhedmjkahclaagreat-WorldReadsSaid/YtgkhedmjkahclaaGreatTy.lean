/- Facts on the program's types. -/
import Derived.Test.YtgkhedmjkahclaaGreatTD
import Derived.Test.YtgkhedmjkahclaaGreatProg
import Derived.KernelRfl
namespace Go.Proofs.YtgkhedmjkahclaaGreat.TL
open Go
@[simp] theorem ag2 : isAg Tryz.prog 2 = false := by kernel_rfl
@[simp] theorem ag3 : isAg Tryz.prog 3 = false := by kernel_rfl
@[simp] theorem ag4 : isAg Tryz.prog 4 = false := by kernel_rfl
@[simp] theorem ag9 : isAg Tryz.prog 9 = false := by kernel_rfl
@[simp] theorem ag22 : isAg Tryz.prog 22 = false := by kernel_rfl
@[simp] theorem ag24 : isAg Tryz.prog 24 = true := by kernel_rfl
@[simp] theorem ag25 : isAg Tryz.prog 25 = false := by kernel_rfl
@[simp] theorem ag29 : isAg Tryz.prog 29 = false := by kernel_rfl
@[simp] theorem ag30 : isAg Tryz.prog 30 = false := by kernel_rfl
@[simp] theorem ag33 : isAg Tryz.prog 33 = false := by kernel_rfl
@[simp] theorem ag35 : isAg Tryz.prog 35 = false := by kernel_rfl
@[simp] theorem ag39 : isAg Tryz.prog 39 = false := by kernel_rfl
@[simp] theorem ag40 : isAg Tryz.prog 40 = false := by kernel_rfl
@[simp] theorem ag42 : isAg Tryz.prog 42 = true := by kernel_rfl
@[simp] theorem ag43 : isAg Tryz.prog 43 = false := by kernel_rfl
@[simp] theorem ag45 : isAg Tryz.prog 45 = true := by kernel_rfl
@[simp] theorem ag51 : isAg Tryz.prog 51 = false := by kernel_rfl
@[simp] theorem ag55 : isAg Tryz.prog 55 = false := by kernel_rfl
@[simp] theorem ag59 : isAg Tryz.prog 59 = false := by kernel_rfl
@[simp] theorem ag70 : isAg Tryz.prog 70 = true := by kernel_rfl
@[simp] theorem ag72 : isAg Tryz.prog 72 = true := by kernel_rfl
@[simp] theorem ag78 : isAg Tryz.prog 78 = false := by kernel_rfl
@[simp] theorem ag80 : isAg Tryz.prog 80 = true := by kernel_rfl
@[simp] theorem ag83 : isAg Tryz.prog 83 = true := by kernel_rfl
@[simp] theorem ag90 : isAg Tryz.prog 90 = false := by kernel_rfl
@[simp] theorem ag92 : isAg Tryz.prog 92 = true := by kernel_rfl
@[simp] theorem ag97 : isAg Tryz.prog 97 = true := by kernel_rfl
@[simp] theorem ag101 : isAg Tryz.prog 101 = false := by kernel_rfl
@[simp] theorem ag105 : isAg Tryz.prog 105 = false := by kernel_rfl
@[simp] theorem ag110 : isAg Tryz.prog 110 = false := by kernel_rfl
@[simp] theorem ag113 : isAg Tryz.prog 113 = false := by kernel_rfl
@[simp] theorem ag114 : isAg Tryz.prog 114 = false := by kernel_rfl
@[simp] theorem ag117 : isAg Tryz.prog 117 = true := by kernel_rfl
@[simp] theorem ag119 : isAg Tryz.prog 119 = true := by kernel_rfl
@[simp] theorem ag122 : isAg Tryz.prog 122 = false := by kernel_rfl
@[simp] theorem ag130 : isAg Tryz.prog 130 = true := by kernel_rfl
@[simp] theorem ag144 : isAg Tryz.prog 144 = false := by kernel_rfl
@[simp] theorem ag148 : isAg Tryz.prog 148 = true := by kernel_rfl
@[simp] theorem ag150 : isAg Tryz.prog 150 = true := by kernel_rfl
@[simp] theorem ag151 : isAg Tryz.prog 151 = true := by kernel_rfl
@[simp] theorem ag154 : isAg Tryz.prog 154 = false := by kernel_rfl
@[simp] theorem ag156 : isAg Tryz.prog 156 = true := by kernel_rfl
@[simp] theorem ag157 : isAg Tryz.prog 157 = false := by kernel_rfl
@[simp] theorem ag159 : isAg Tryz.prog 159 = true := by kernel_rfl
@[simp] theorem ag160 : isAg Tryz.prog 160 = false := by kernel_rfl
@[simp] theorem ag162 : isAg Tryz.prog 162 = true := by kernel_rfl
@[simp] theorem ag192 : isAg Tryz.prog 192 = true := by kernel_rfl
@[simp] theorem ag222 : isAg Tryz.prog 222 = true := by kernel_rfl
@[simp] theorem ag232 : isAg Tryz.prog 232 = false := by kernel_rfl
@[simp] theorem ag235 : isAg Tryz.prog 235 = false := by kernel_rfl
@[simp] theorem ag243 : isAg Tryz.prog 243 = false := by kernel_rfl
@[simp] theorem ag254 : isAg Tryz.prog 254 = true := by kernel_rfl
@[simp] theorem ar9 : arrOf Tryz.prog 9 = none := by kernel_rfl
@[simp] theorem ar22 : arrOf Tryz.prog 22 = none := by kernel_rfl
@[simp] theorem ar26 : arrOf Tryz.prog 26 = none := by kernel_rfl
@[simp] theorem ar33 : arrOf Tryz.prog 33 = none := by kernel_rfl
@[simp] theorem ar35 : arrOf Tryz.prog 35 = none := by kernel_rfl
@[simp] theorem ar39 : arrOf Tryz.prog 39 = none := by kernel_rfl
@[simp] theorem ar40 : arrOf Tryz.prog 40 = none := by kernel_rfl
@[simp] theorem ar43 : arrOf Tryz.prog 43 = none := by kernel_rfl
@[simp] theorem ar52 : arrOf Tryz.prog 52 = some (6, 1) := by kernel_rfl
@[simp] theorem ar68 : arrOf Tryz.prog 68 = none := by kernel_rfl
@[simp] theorem ar78 : arrOf Tryz.prog 78 = none := by kernel_rfl
@[simp] theorem ar86 : arrOf Tryz.prog 86 = none := by kernel_rfl
@[simp] theorem ar102 : arrOf Tryz.prog 102 = some (64, 1) := by kernel_rfl
@[simp] theorem ar113 : arrOf Tryz.prog 113 = none := by kernel_rfl
@[simp] theorem ar114 : arrOf Tryz.prog 114 = none := by kernel_rfl
@[simp] theorem ar144 : arrOf Tryz.prog 144 = none := by kernel_rfl
@[simp] theorem ar148 : arrOf Tryz.prog 148 = some (5, 1) := by kernel_rfl
@[simp] theorem ar154 : arrOf Tryz.prog 154 = none := by kernel_rfl
@[simp] theorem ar196 : arrOf Tryz.prog 196 = none := by kernel_rfl
@[simp] theorem ar232 : arrOf Tryz.prog 232 = none := by kernel_rfl
@[simp] theorem ar237 : arrOf Tryz.prog 237 = none := by kernel_rfl
@[simp] theorem ar254 : arrOf Tryz.prog 254 = some (7, 1) := by kernel_rfl
@[simp] theorem are148 : arrEOf Tryz.prog 148 = some (5, 1, false) := by kernel_rfl
@[simp] theorem by2 : byOf Tryz.prog 2 = 8 := by kernel_rfl
@[simp] theorem by3 : byOf Tryz.prog 3 = 8 := by kernel_rfl
@[simp] theorem by5 : byOf Tryz.prog 5 = 1 := by kernel_rfl
@[simp] theorem by80 : byOf Tryz.prog 80 = 72 := by kernel_rfl
@[simp] theorem by117 : byOf Tryz.prog 117 = 32 := by kernel_rfl
@[simp] theorem by119 : byOf Tryz.prog 119 = 32 := by kernel_rfl
@[simp] theorem by150 : byOf Tryz.prog 150 = 48 := by kernel_rfl
@[simp] theorem by151 : byOf Tryz.prog 151 = 48 := by kernel_rfl
@[simp] theorem by156 : byOf Tryz.prog 156 = 40 := by kernel_rfl
@[simp] theorem by159 : byOf Tryz.prog 159 = 40 := by kernel_rfl
@[simp] theorem by162 : byOf Tryz.prog 162 = 16 := by kernel_rfl
@[simp] theorem by164 : byOf Tryz.prog 164 = 16 := by kernel_rfl
@[simp] theorem by222 : byOf Tryz.prog 222 = 40 := by kernel_rfl
@[simp] theorem by235 : byOf Tryz.prog 235 = 8 := by kernel_rfl
@[simp] theorem cc108 : Tryz.prog.concrete 108 = true := by kernel_rfl
@[simp] theorem el9 : elemOf Tryz.prog 9 = none := by kernel_rfl
@[simp] theorem el22 : elemOf Tryz.prog 22 = some 3 := by kernel_rfl
@[simp] theorem el26 : elemOf Tryz.prog 26 = some 1 := by kernel_rfl
@[simp] theorem el33 : elemOf Tryz.prog 33 = some 2 := by kernel_rfl
@[simp] theorem el35 : elemOf Tryz.prog 35 = some 1 := by kernel_rfl
@[simp] theorem el39 : elemOf Tryz.prog 39 = some 1 := by kernel_rfl
@[simp] theorem el40 : elemOf Tryz.prog 40 = some 6 := by kernel_rfl
@[simp] theorem el43 : elemOf Tryz.prog 43 = some 1 := by kernel_rfl
@[simp] theorem el52 : elemOf Tryz.prog 52 = none := by kernel_rfl
@[simp] theorem el61 : elemOf Tryz.prog 61 = some 3 := by kernel_rfl
@[simp] theorem el68 : elemOf Tryz.prog 68 = some 6 := by kernel_rfl
@[simp] theorem el78 : elemOf Tryz.prog 78 = some 3 := by kernel_rfl
@[simp] theorem el86 : elemOf Tryz.prog 86 = some 5 := by kernel_rfl
@[simp] theorem el102 : elemOf Tryz.prog 102 = none := by kernel_rfl
@[simp] theorem el113 : elemOf Tryz.prog 113 = some 4 := by kernel_rfl
@[simp] theorem el114 : elemOf Tryz.prog 114 = some 4 := by kernel_rfl
@[simp] theorem el122 : elemOf Tryz.prog 122 = some 1 := by kernel_rfl
@[simp] theorem el144 : elemOf Tryz.prog 144 = some 6 := by kernel_rfl
@[simp] theorem el148 : elemOf Tryz.prog 148 = none := by kernel_rfl
@[simp] theorem el154 : elemOf Tryz.prog 154 = some 2 := by kernel_rfl
@[simp] theorem el157 : elemOf Tryz.prog 157 = some 2 := by kernel_rfl
@[simp] theorem el196 : elemOf Tryz.prog 196 = some 1 := by kernel_rfl
@[simp] theorem el232 : elemOf Tryz.prog 232 = some 1 := by kernel_rfl
@[simp] theorem el237 : elemOf Tryz.prog 237 = some 1 := by kernel_rfl
@[simp] theorem el254 : elemOf Tryz.prog 254 = none := by kernel_rfl
@[simp] theorem sc2 : scal Tryz.prog 2 = some 0 := by kernel_rfl
@[simp] theorem sc3 : scal Tryz.prog 3 = some 0 := by kernel_rfl
@[simp] theorem sc4 : scal Tryz.prog 4 = some 2 := by kernel_rfl
@[simp] theorem sc5 : scal Tryz.prog 5 = some 0 := by kernel_rfl
@[simp] theorem sc9 : scal Tryz.prog 9 = some 1 := by kernel_rfl
@[simp] theorem sc25 : scal Tryz.prog 25 = some 0 := by kernel_rfl
@[simp] theorem pt29 : isPtr Tryz.prog 29 = true := by kernel_rfl
@[simp] theorem sc30 : scal Tryz.prog 30 = some 0 := by kernel_rfl
@[simp] theorem is39 : isSlice Tryz.prog 39 = true := by kernel_rfl
@[simp] theorem pt51 : isPtr Tryz.prog 51 = true := by kernel_rfl
@[simp] theorem sc59 : scal Tryz.prog 59 = some 0 := by kernel_rfl
@[simp] theorem eq70 : eqOf Tryz.prog 70 = some [(0, 0), (1, 0)] := by kernel_rfl
@[simp] theorem pt74 : isPtr Tryz.prog 74 = true := by kernel_rfl
@[simp] theorem sc90 : scal Tryz.prog 90 = some 0 := by kernel_rfl
@[simp] theorem is144 : isSlice Tryz.prog 144 = true := by kernel_rfl
@[simp] theorem eq150 : eqOf Tryz.prog 150 = some [(0, 0), (1, 0), (2, 0), (3, 0), (4, 0), (5, 0)] := by kernel_rfl
@[simp] theorem sc160 : scal Tryz.prog 160 = some 0 := by kernel_rfl
@[simp] theorem fd24_0 : fieldOf Tryz.prog 24 0 = some (0, 1, false) := by kernel_rfl
@[simp] theorem fd42_0 : fieldOf Tryz.prog 42 0 = some (0, 1, false) := by kernel_rfl
@[simp] theorem fd42_1 : fieldOf Tryz.prog 42 1 = some (1, 1, false) := by kernel_rfl
@[simp] theorem fd45_0 : fieldOf Tryz.prog 45 0 = some (0, 1, false) := by kernel_rfl
@[simp] theorem fd45_1 : fieldOf Tryz.prog 45 1 = some (1, 1, false) := by kernel_rfl
@[simp] theorem fd45_2 : fieldOf Tryz.prog 45 2 = some (2, 1, false) := by kernel_rfl
@[simp] theorem fd45_3 : fieldOf Tryz.prog 45 3 = some (3, 1, false) := by kernel_rfl
@[simp] theorem fd45_4 : fieldOf Tryz.prog 45 4 = some (4, 2, true) := by kernel_rfl
@[simp] theorem fd45_5 : fieldOf Tryz.prog 45 5 = some (6, 1, false) := by kernel_rfl
@[simp] theorem fd54_0 : fieldOf Tryz.prog 54 0 = some (0, 1, false) := by kernel_rfl
@[simp] theorem fd54_1 : fieldOf Tryz.prog 54 1 = some (1, 6, true) := by kernel_rfl
@[simp] theorem fd57_0 : fieldOf Tryz.prog 57 0 = some (0, 1, false) := by kernel_rfl
@[simp] theorem fd57_1 : fieldOf Tryz.prog 57 1 = some (1, 7, true) := by kernel_rfl
@[simp] theorem fd57_2 : fieldOf Tryz.prog 57 2 = some (8, 1, false) := by kernel_rfl
@[simp] theorem fd57_3 : fieldOf Tryz.prog 57 3 = some (9, 1, false) := by kernel_rfl
@[simp] theorem fd57_4 : fieldOf Tryz.prog 57 4 = some (10, 1, false) := by kernel_rfl
@[simp] theorem fd70_0 : fieldOf Tryz.prog 70 0 = some (0, 1, false) := by kernel_rfl
@[simp] theorem fd70_1 : fieldOf Tryz.prog 70 1 = some (1, 1, false) := by kernel_rfl
@[simp] theorem fd72_0 : fieldOf Tryz.prog 72 0 = some (0, 1, true) := by kernel_rfl
@[simp] theorem fd72_1 : fieldOf Tryz.prog 72 1 = some (1, 1, false) := by kernel_rfl
@[simp] theorem fd72_2 : fieldOf Tryz.prog 72 2 = some (2, 1, false) := by kernel_rfl
@[simp] theorem fd72_3 : fieldOf Tryz.prog 72 3 = some (3, 2, true) := by kernel_rfl
@[simp] theorem fd80_0 : fieldOf Tryz.prog 80 0 = some (0, 1, false) := by kernel_rfl
@[simp] theorem fd80_1 : fieldOf Tryz.prog 80 1 = some (1, 1, false) := by kernel_rfl
@[simp] theorem fd80_2 : fieldOf Tryz.prog 80 2 = some (2, 2, true) := by kernel_rfl
@[simp] theorem fd80_3 : fieldOf Tryz.prog 80 3 = some (4, 1, false) := by kernel_rfl
@[simp] theorem fd83_0 : fieldOf Tryz.prog 83 0 = some (0, 1, false) := by kernel_rfl
@[simp] theorem fd83_1 : fieldOf Tryz.prog 83 1 = some (1, 1, false) := by kernel_rfl
@[simp] theorem fd83_2 : fieldOf Tryz.prog 83 2 = some (2, 1, false) := by kernel_rfl
@[simp] theorem fd83_3 : fieldOf Tryz.prog 83 3 = some (3, 1, false) := by kernel_rfl
@[simp] theorem fd83_4 : fieldOf Tryz.prog 83 4 = some (4, 1, false) := by kernel_rfl
@[simp] theorem fd83_5 : fieldOf Tryz.prog 83 5 = some (5, 1, false) := by kernel_rfl
@[simp] theorem fd92_0 : fieldOf Tryz.prog 92 0 = some (0, 1, false) := by kernel_rfl
@[simp] theorem fd92_1 : fieldOf Tryz.prog 92 1 = some (1, 1, false) := by kernel_rfl
@[simp] theorem fd94_0 : fieldOf Tryz.prog 94 0 = some (0, 1, false) := by kernel_rfl
@[simp] theorem fd94_1 : fieldOf Tryz.prog 94 1 = some (1, 1, true) := by kernel_rfl
@[simp] theorem fd94_2 : fieldOf Tryz.prog 94 2 = some (2, 2, true) := by kernel_rfl
@[simp] theorem fd94_3 : fieldOf Tryz.prog 94 3 = some (4, 2, true) := by kernel_rfl
@[simp] theorem fd104_0 : fieldOf Tryz.prog 104 0 = some (0, 64, true) := by kernel_rfl
@[simp] theorem fd108_0 : fieldOf Tryz.prog 108 0 = some (0, 1, false) := by kernel_rfl
@[simp] theorem fd112_0 : fieldOf Tryz.prog 112 0 = some (0, 1, false) := by kernel_rfl
@[simp] theorem fd112_1 : fieldOf Tryz.prog 112 1 = some (1, 1, false) := by kernel_rfl
@[simp] theorem fd112_2 : fieldOf Tryz.prog 112 2 = some (2, 1, true) := by kernel_rfl
@[simp] theorem fd112_3 : fieldOf Tryz.prog 112 3 = some (3, 1, false) := by kernel_rfl
@[simp] theorem fd117_0 : fieldOf Tryz.prog 117 0 = some (0, 1, false) := by kernel_rfl
@[simp] theorem fd117_1 : fieldOf Tryz.prog 117 1 = some (1, 1, false) := by kernel_rfl
@[simp] theorem fd119_0 : fieldOf Tryz.prog 119 0 = some (0, 1, false) := by kernel_rfl
@[simp] theorem fd119_1 : fieldOf Tryz.prog 119 1 = some (1, 1, false) := by kernel_rfl
@[simp] theorem fd119_2 : fieldOf Tryz.prog 119 2 = some (2, 1, false) := by kernel_rfl
@[simp] theorem fd119_3 : fieldOf Tryz.prog 119 3 = some (3, 1, false) := by kernel_rfl
@[simp] theorem fd124_0 : fieldOf Tryz.prog 124 0 = some (0, 1, false) := by kernel_rfl
@[simp] theorem fd130_0 : fieldOf Tryz.prog 130 0 = some (0, 1, false) := by kernel_rfl
@[simp] theorem fd130_1 : fieldOf Tryz.prog 130 1 = some (1, 1, false) := by kernel_rfl
@[simp] theorem fd150_0 : fieldOf Tryz.prog 150 0 = some (0, 1, false) := by kernel_rfl
@[simp] theorem fd150_1 : fieldOf Tryz.prog 150 1 = some (1, 5, true) := by kernel_rfl
@[simp] theorem fd151_0 : fieldOf Tryz.prog 151 0 = some (0, 1, false) := by kernel_rfl
@[simp] theorem fd151_1 : fieldOf Tryz.prog 151 1 = some (1, 5, true) := by kernel_rfl
@[simp] theorem fd156_0 : fieldOf Tryz.prog 156 0 = some (0, 1, false) := by kernel_rfl
@[simp] theorem fd156_1 : fieldOf Tryz.prog 156 1 = some (1, 1, false) := by kernel_rfl
@[simp] theorem fd156_2 : fieldOf Tryz.prog 156 2 = some (2, 1, false) := by kernel_rfl
@[simp] theorem fd159_2 : fieldOf Tryz.prog 159 2 = some (2, 1, false) := by kernel_rfl
@[simp] theorem fd162_0 : fieldOf Tryz.prog 162 0 = some (0, 1, false) := by kernel_rfl
@[simp] theorem fd162_1 : fieldOf Tryz.prog 162 1 = some (1, 1, false) := by kernel_rfl
@[simp] theorem fd188_0 : fieldOf Tryz.prog 188 0 = some (0, 1, false) := by kernel_rfl
@[simp] theorem fd188_1 : fieldOf Tryz.prog 188 1 = some (1, 1, false) := by kernel_rfl
@[simp] theorem fd190_0 : fieldOf Tryz.prog 190 0 = some (0, 1, false) := by kernel_rfl
@[simp] theorem fd192_0 : fieldOf Tryz.prog 192 0 = some (0, 1, false) := by kernel_rfl
@[simp] theorem fd192_2 : fieldOf Tryz.prog 192 2 = some (2, 1, false) := by kernel_rfl
@[simp] theorem fd213_0 : fieldOf Tryz.prog 213 0 = some (0, 1, false) := by kernel_rfl
@[simp] theorem fd213_1 : fieldOf Tryz.prog 213 1 = some (1, 1, false) := by kernel_rfl
@[simp] theorem fd222_0 : fieldOf Tryz.prog 222 0 = some (0, 1, false) := by kernel_rfl
@[simp] theorem fd222_1 : fieldOf Tryz.prog 222 1 = some (1, 1, false) := by kernel_rfl
@[simp] theorem fd222_2 : fieldOf Tryz.prog 222 2 = some (2, 1, false) := by kernel_rfl
@[simp] theorem fd234_0 : fieldOf Tryz.prog 234 0 = some (0, 1, false) := by kernel_rfl
@[simp] theorem fd234_1 : fieldOf Tryz.prog 234 1 = some (1, 1, false) := by kernel_rfl
@[simp] theorem fd234_2 : fieldOf Tryz.prog 234 2 = some (2, 1, false) := by kernel_rfl
@[simp] theorem fd234_3 : fieldOf Tryz.prog 234 3 = some (3, 1, false) := by kernel_rfl
@[simp] theorem fd245_0 : fieldOf Tryz.prog 245 0 = some (0, 1, false) := by kernel_rfl
@[simp] theorem fd247_0 : fieldOf Tryz.prog 247 0 = some (0, 1, false) := by kernel_rfl
@[simp] theorem fd247_1 : fieldOf Tryz.prog 247 1 = some (1, 1, false) := by kernel_rfl
@[simp] theorem fd247_2 : fieldOf Tryz.prog 247 2 = some (2, 1, false) := by kernel_rfl
@[simp] theorem fd247_3 : fieldOf Tryz.prog 247 3 = some (3, 1, false) := by kernel_rfl
@[simp] theorem hu2 : hasU Tryz.prog 2 = true := by kernel_rfl
@[simp] theorem hu3 : hasU Tryz.prog 3 = true := by kernel_rfl
@[simp] theorem hu4 : hasU Tryz.prog 4 = true := by kernel_rfl
@[simp] theorem hu5 : hasU Tryz.prog 5 = true := by kernel_rfl
@[simp] theorem hu9 : hasU Tryz.prog 9 = true := by kernel_rfl
@[simp] theorem hu22 : hasU Tryz.prog 22 = true := by kernel_rfl
@[simp] theorem hu24 : hasU Tryz.prog 24 = true := by kernel_rfl
@[simp] theorem hu25 : hasU Tryz.prog 25 = true := by kernel_rfl
@[simp] theorem hu29 : hasU Tryz.prog 29 = true := by kernel_rfl
@[simp] theorem hu30 : hasU Tryz.prog 30 = true := by kernel_rfl
@[simp] theorem hu33 : hasU Tryz.prog 33 = true := by kernel_rfl
@[simp] theorem hu35 : hasU Tryz.prog 35 = true := by kernel_rfl
@[simp] theorem hu39 : hasU Tryz.prog 39 = true := by kernel_rfl
@[simp] theorem hu40 : hasU Tryz.prog 40 = true := by kernel_rfl
@[simp] theorem hu42 : hasU Tryz.prog 42 = true := by kernel_rfl
@[simp] theorem hu43 : hasU Tryz.prog 43 = true := by kernel_rfl
@[simp] theorem hu45 : hasU Tryz.prog 45 = true := by kernel_rfl
@[simp] theorem hu51 : hasU Tryz.prog 51 = true := by kernel_rfl
@[simp] theorem hu55 : hasU Tryz.prog 55 = true := by kernel_rfl
@[simp] theorem hu59 : hasU Tryz.prog 59 = true := by kernel_rfl
@[simp] theorem hu70 : hasU Tryz.prog 70 = true := by kernel_rfl
@[simp] theorem hu72 : hasU Tryz.prog 72 = true := by kernel_rfl
@[simp] theorem hu78 : hasU Tryz.prog 78 = true := by kernel_rfl
@[simp] theorem hu80 : hasU Tryz.prog 80 = true := by kernel_rfl
@[simp] theorem hu83 : hasU Tryz.prog 83 = true := by kernel_rfl
@[simp] theorem hu90 : hasU Tryz.prog 90 = true := by kernel_rfl
@[simp] theorem hu92 : hasU Tryz.prog 92 = true := by kernel_rfl
@[simp] theorem hu97 : hasU Tryz.prog 97 = true := by kernel_rfl
@[simp] theorem hu101 : hasU Tryz.prog 101 = true := by kernel_rfl
@[simp] theorem hu105 : hasU Tryz.prog 105 = true := by kernel_rfl
@[simp] theorem hu110 : hasU Tryz.prog 110 = true := by kernel_rfl
@[simp] theorem hu113 : hasU Tryz.prog 113 = true := by kernel_rfl
@[simp] theorem hu114 : hasU Tryz.prog 114 = true := by kernel_rfl
@[simp] theorem hu117 : hasU Tryz.prog 117 = true := by kernel_rfl
@[simp] theorem hu119 : hasU Tryz.prog 119 = true := by kernel_rfl
@[simp] theorem hu122 : hasU Tryz.prog 122 = true := by kernel_rfl
@[simp] theorem hu130 : hasU Tryz.prog 130 = true := by kernel_rfl
@[simp] theorem hu144 : hasU Tryz.prog 144 = true := by kernel_rfl
@[simp] theorem hu148 : hasU Tryz.prog 148 = true := by kernel_rfl
@[simp] theorem hu150 : hasU Tryz.prog 150 = true := by kernel_rfl
@[simp] theorem hu151 : hasU Tryz.prog 151 = true := by kernel_rfl
@[simp] theorem hu154 : hasU Tryz.prog 154 = true := by kernel_rfl
@[simp] theorem hu156 : hasU Tryz.prog 156 = true := by kernel_rfl
@[simp] theorem hu157 : hasU Tryz.prog 157 = true := by kernel_rfl
@[simp] theorem hu159 : hasU Tryz.prog 159 = true := by kernel_rfl
@[simp] theorem hu160 : hasU Tryz.prog 160 = true := by kernel_rfl
@[simp] theorem hu162 : hasU Tryz.prog 162 = true := by kernel_rfl
@[simp] theorem hu192 : hasU Tryz.prog 192 = true := by kernel_rfl
@[simp] theorem hu222 : hasU Tryz.prog 222 = true := by kernel_rfl
@[simp] theorem hu232 : hasU Tryz.prog 232 = true := by kernel_rfl
@[simp] theorem hu235 : hasU Tryz.prog 235 = true := by kernel_rfl
@[simp] theorem hu238 : hasU Tryz.prog 238 = true := by kernel_rfl
@[simp] theorem hu243 : hasU Tryz.prog 243 = true := by kernel_rfl
@[simp] theorem hu254 : hasU Tryz.prog 254 = true := by kernel_rfl
@[simp] theorem kd2 : kdOf Tryz.prog 2 = .int .i64 := by kernel_rfl
@[simp] theorem kd3 : kdOf Tryz.prog 3 = .int .i64 := by kernel_rfl
@[simp] theorem kd5 : kdOf Tryz.prog 5 = .int .u8 := by kernel_rfl
@[simp] theorem kd9 : kdOf Tryz.prog 9 = .str := by kernel_rfl
@[simp] theorem kd22 : kdOf Tryz.prog 22 = .other := by kernel_rfl
@[simp] theorem kd25 : kdOf Tryz.prog 25 = .int .u64 := by kernel_rfl
@[simp] theorem kd26 : kdOf Tryz.prog 26 = .other := by kernel_rfl
@[simp] theorem kd33 : kdOf Tryz.prog 33 = .other := by kernel_rfl
@[simp] theorem kd35 : kdOf Tryz.prog 35 = .other := by kernel_rfl
@[simp] theorem kd39 : kdOf Tryz.prog 39 = .other := by kernel_rfl
@[simp] theorem kd40 : kdOf Tryz.prog 40 = .other := by kernel_rfl
@[simp] theorem kd43 : kdOf Tryz.prog 43 = .other := by kernel_rfl
@[simp] theorem kd52 : kdOf Tryz.prog 52 = .other := by kernel_rfl
@[simp] theorem kd61 : kdOf Tryz.prog 61 = .other := by kernel_rfl
@[simp] theorem kd68 : kdOf Tryz.prog 68 = .other := by kernel_rfl
@[simp] theorem kd78 : kdOf Tryz.prog 78 = .other := by kernel_rfl
@[simp] theorem kd86 : kdOf Tryz.prog 86 = .other := by kernel_rfl
@[simp] theorem kd90 : kdOf Tryz.prog 90 = .int .u32 := by kernel_rfl
@[simp] theorem kd102 : kdOf Tryz.prog 102 = .other := by kernel_rfl
@[simp] theorem kd113 : kdOf Tryz.prog 113 = .other := by kernel_rfl
@[simp] theorem kd114 : kdOf Tryz.prog 114 = .other := by kernel_rfl
@[simp] theorem kd122 : kdOf Tryz.prog 122 = .bytes := by kernel_rfl
@[simp] theorem kd144 : kdOf Tryz.prog 144 = .other := by kernel_rfl
@[simp] theorem kd148 : kdOf Tryz.prog 148 = .other := by kernel_rfl
@[simp] theorem kd154 : kdOf Tryz.prog 154 = .other := by kernel_rfl
@[simp] theorem kd157 : kdOf Tryz.prog 157 = .other := by kernel_rfl
@[simp] theorem kd160 : kdOf Tryz.prog 160 = .int .u8 := by kernel_rfl
@[simp] theorem kd196 : kdOf Tryz.prog 196 = .other := by kernel_rfl
@[simp] theorem kd197 : kdOf Tryz.prog 197 = .int .u64 := by kernel_rfl
@[simp] theorem kd232 : kdOf Tryz.prog 232 = .other := by kernel_rfl
@[simp] theorem kd237 : kdOf Tryz.prog 237 = .other := by kernel_rfl
@[simp] theorem kd238 : kdOf Tryz.prog 238 = .int .u64 := by kernel_rfl
@[simp] theorem me108_Do : methOf Tryz.prog 108 "Do" = some 165 := by kernel_rfl
@[simp] theorem plc24 : plcOf Tryz.prog 24 = some [(0, 1)] := by kernel_rfl
@[simp] theorem plc42 : plcOf Tryz.prog 42 = some [(0, 1), (1, 1)] := by kernel_rfl
@[simp] theorem plc45 : plcOf Tryz.prog 45 = some [(0, 1), (1, 1), (2, 1), (3, 1), (4, 2), (6, 1)] := by kernel_rfl
@[simp] theorem plc57 : plcOf Tryz.prog 57 = some [(0, 1), (1, 7), (8, 1), (9, 1), (10, 1)] := by kernel_rfl
@[simp] theorem plc70 : plcOf Tryz.prog 70 = some [(0, 1), (1, 1)] := by kernel_rfl
@[simp] theorem plc72 : plcOf Tryz.prog 72 = some [(0, 1), (1, 1), (2, 1), (3, 2)] := by kernel_rfl
@[simp] theorem plc80 : plcOf Tryz.prog 80 = some [(0, 1), (1, 1), (2, 2), (4, 1)] := by kernel_rfl
@[simp] theorem plc92 : plcOf Tryz.prog 92 = some [(0, 1), (1, 1)] := by kernel_rfl
@[simp] theorem plc94 : plcOf Tryz.prog 94 = some [(0, 1), (1, 1), (2, 2), (4, 2)] := by kernel_rfl
@[simp] theorem plc97 : plcOf Tryz.prog 97 = some [(0, 1), (1, 1)] := by kernel_rfl
@[simp] theorem plc104 : plcOf Tryz.prog 104 = some [(0, 64)] := by kernel_rfl
@[simp] theorem plc108 : plcOf Tryz.prog 108 = some [(0, 1)] := by kernel_rfl
@[simp] theorem plc112 : plcOf Tryz.prog 112 = some [(0, 1), (1, 1), (2, 1), (3, 1)] := by kernel_rfl
@[simp] theorem plc117 : plcOf Tryz.prog 117 = some [(0, 1), (1, 1)] := by kernel_rfl
@[simp] theorem plc130 : plcOf Tryz.prog 130 = some [(0, 1), (1, 1)] := by kernel_rfl
@[simp] theorem plc148 : plcOf Tryz.prog 148 = some [(0, 1), (1, 1), (2, 1), (3, 1), (4, 1)] := by kernel_rfl
@[simp] theorem plc150 : plcOf Tryz.prog 150 = some [(0, 1), (1, 5)] := by kernel_rfl
@[simp] theorem plc151 : plcOf Tryz.prog 151 = some [(0, 1), (1, 5)] := by kernel_rfl
@[simp] theorem plc156 : plcOf Tryz.prog 156 = some [(0, 1), (1, 1), (2, 1)] := by kernel_rfl
@[simp] theorem plc159 : plcOf Tryz.prog 159 = some [(0, 1), (1, 1), (2, 1)] := by kernel_rfl
@[simp] theorem plc162 : plcOf Tryz.prog 162 = some [(0, 1), (1, 1)] := by kernel_rfl
@[simp] theorem plc164 : plcOf Tryz.prog 164 = some [(0, 1), (1, 1)] := by kernel_rfl
@[simp] theorem plc188 : plcOf Tryz.prog 188 = some [(0, 1), (1, 1)] := by kernel_rfl
@[simp] theorem plc190 : plcOf Tryz.prog 190 = some [(0, 1)] := by kernel_rfl
@[simp] theorem plc192 : plcOf Tryz.prog 192 = some [(0, 1), (1, 1), (2, 1)] := by kernel_rfl
@[simp] theorem plc213 : plcOf Tryz.prog 213 = some [(0, 1), (1, 1)] := by kernel_rfl
@[simp] theorem plc234 : plcOf Tryz.prog 234 = some [(0, 1), (1, 1), (2, 1), (3, 1)] := by kernel_rfl
@[simp] theorem plc245 : plcOf Tryz.prog 245 = some [(0, 1)] := by kernel_rfl
@[simp] theorem plc247 : plcOf Tryz.prog 247 = some [(0, 1), (1, 1), (2, 1), (3, 1)] := by kernel_rfl
@[simp] theorem plc254 : plcOf Tryz.prog 254 = some [(0, 1), (1, 1), (2, 1), (3, 1), (4, 1), (5, 1), (6, 1)] := by kernel_rfl
@[simp] theorem sz2 : szOf Tryz.prog 2 = 1 := by kernel_rfl
@[simp] theorem sz3 : szOf Tryz.prog 3 = 1 := by kernel_rfl
@[simp] theorem sz4 : szOf Tryz.prog 4 = 1 := by kernel_rfl
@[simp] theorem sz9 : szOf Tryz.prog 9 = 1 := by kernel_rfl
@[simp] theorem sz22 : szOf Tryz.prog 22 = 1 := by kernel_rfl
@[simp] theorem sz24 : szOf Tryz.prog 24 = 1 := by kernel_rfl
@[simp] theorem sz25 : szOf Tryz.prog 25 = 1 := by kernel_rfl
@[simp] theorem sz29 : szOf Tryz.prog 29 = 1 := by kernel_rfl
@[simp] theorem sz30 : szOf Tryz.prog 30 = 1 := by kernel_rfl
@[simp] theorem sz33 : szOf Tryz.prog 33 = 1 := by kernel_rfl
@[simp] theorem sz35 : szOf Tryz.prog 35 = 1 := by kernel_rfl
@[simp] theorem sz39 : szOf Tryz.prog 39 = 1 := by kernel_rfl
@[simp] theorem sz40 : szOf Tryz.prog 40 = 1 := by kernel_rfl
@[simp] theorem sz42 : szOf Tryz.prog 42 = 2 := by kernel_rfl
@[simp] theorem sz43 : szOf Tryz.prog 43 = 1 := by kernel_rfl
@[simp] theorem sz45 : szOf Tryz.prog 45 = 7 := by kernel_rfl
@[simp] theorem sz51 : szOf Tryz.prog 51 = 1 := by kernel_rfl
@[simp] theorem sz55 : szOf Tryz.prog 55 = 1 := by kernel_rfl
@[simp] theorem sz59 : szOf Tryz.prog 59 = 1 := by kernel_rfl
@[simp] theorem sz70 : szOf Tryz.prog 70 = 2 := by kernel_rfl
@[simp] theorem sz72 : szOf Tryz.prog 72 = 5 := by kernel_rfl
@[simp] theorem sz78 : szOf Tryz.prog 78 = 1 := by kernel_rfl
@[simp] theorem sz80 : szOf Tryz.prog 80 = 5 := by kernel_rfl
@[simp] theorem sz83 : szOf Tryz.prog 83 = 6 := by kernel_rfl
@[simp] theorem sz90 : szOf Tryz.prog 90 = 1 := by kernel_rfl
@[simp] theorem sz92 : szOf Tryz.prog 92 = 2 := by kernel_rfl
@[simp] theorem sz97 : szOf Tryz.prog 97 = 2 := by kernel_rfl
@[simp] theorem sz101 : szOf Tryz.prog 101 = 1 := by kernel_rfl
@[simp] theorem sz105 : szOf Tryz.prog 105 = 1 := by kernel_rfl
@[simp] theorem sz110 : szOf Tryz.prog 110 = 1 := by kernel_rfl
@[simp] theorem sz113 : szOf Tryz.prog 113 = 1 := by kernel_rfl
@[simp] theorem sz114 : szOf Tryz.prog 114 = 1 := by kernel_rfl
@[simp] theorem sz117 : szOf Tryz.prog 117 = 2 := by kernel_rfl
@[simp] theorem sz119 : szOf Tryz.prog 119 = 4 := by kernel_rfl
@[simp] theorem sz122 : szOf Tryz.prog 122 = 1 := by kernel_rfl
@[simp] theorem sz130 : szOf Tryz.prog 130 = 2 := by kernel_rfl
@[simp] theorem sz144 : szOf Tryz.prog 144 = 1 := by kernel_rfl
@[simp] theorem sz148 : szOf Tryz.prog 148 = 5 := by kernel_rfl
@[simp] theorem sz150 : szOf Tryz.prog 150 = 6 := by kernel_rfl
@[simp] theorem sz151 : szOf Tryz.prog 151 = 6 := by kernel_rfl
@[simp] theorem sz154 : szOf Tryz.prog 154 = 1 := by kernel_rfl
@[simp] theorem sz156 : szOf Tryz.prog 156 = 3 := by kernel_rfl
@[simp] theorem sz157 : szOf Tryz.prog 157 = 1 := by kernel_rfl
@[simp] theorem sz159 : szOf Tryz.prog 159 = 3 := by kernel_rfl
@[simp] theorem sz160 : szOf Tryz.prog 160 = 1 := by kernel_rfl
@[simp] theorem sz162 : szOf Tryz.prog 162 = 2 := by kernel_rfl
@[simp] theorem sz192 : szOf Tryz.prog 192 = 3 := by kernel_rfl
@[simp] theorem sz222 : szOf Tryz.prog 222 = 3 := by kernel_rfl
@[simp] theorem sz232 : szOf Tryz.prog 232 = 1 := by kernel_rfl
@[simp] theorem sz235 : szOf Tryz.prog 235 = 1 := by kernel_rfl
@[simp] theorem sz243 : szOf Tryz.prog 243 = 1 := by kernel_rfl
@[simp] theorem sz254 : szOf Tryz.prog 254 = 7 := by kernel_rfl
@[simp] theorem un22 : Tryz.prog.underlying 22 = some (.slice 156) := by kernel_rfl
@[simp] theorem un33 : Tryz.prog.underlying 33 = some (.slice 117) := by kernel_rfl
@[simp] theorem un39 : Tryz.prog.underlying 39 = some (.slice 2) := by kernel_rfl
@[simp] theorem un40 : Tryz.prog.underlying 40 = some (.slice 150) := by kernel_rfl
@[simp] theorem un43 : Tryz.prog.underlying 43 = some (.slice 3) := by kernel_rfl
@[simp] theorem un61 : Tryz.prog.underlying 61 = some (.slice 159) := by kernel_rfl
@[simp] theorem un78 : Tryz.prog.underlying 78 = some (.slice 222) := by kernel_rfl
@[simp] theorem un86 : Tryz.prog.underlying 86 = some (.slice 80) := by kernel_rfl
@[simp] theorem un114 : Tryz.prog.underlying 114 = some (.slice 119) := by kernel_rfl
@[simp] theorem un122 : Tryz.prog.underlying 122 = some (.slice 5) := by kernel_rfl
@[simp] theorem un144 : Tryz.prog.underlying 144 = some (.slice 151) := by kernel_rfl
@[simp] theorem un154 : Tryz.prog.underlying 154 = some (.slice 162) := by kernel_rfl
@[simp] theorem un157 : Tryz.prog.underlying 157 = some (.slice 164) := by kernel_rfl
@[simp] theorem un232 : Tryz.prog.underlying 232 = some (.slice 235) := by kernel_rfl
@[simp] theorem zero2 : zeroOf Tryz.prog 2 = some [.int .i64 0] := by kernel_rfl
@[simp] theorem zero3 : zeroOf Tryz.prog 3 = some [.int .i64 0] := by kernel_rfl
@[simp] theorem zero24 : zeroOf Tryz.prog 24 = some [.slice none 0 0] := by kernel_rfl
@[simp] theorem zero42 : zeroOf Tryz.prog 42 = some [.slice none 0 0, .int .i64 0] := by kernel_rfl
@[simp] theorem zero45 : zeroOf Tryz.prog 45 = some [.int .i64 0, .int .i64 0, .int .u64 0, .slice none 0 0, .slice none 0 0, .int .i64 0, .slice none 0 0] := by kernel_rfl
@[simp] theorem zero57 : zeroOf Tryz.prog 57 = some [.pointer none, .int .i64 0, .int .i64 0, .int .i64 0, .int .i64 0, .int .i64 0, .int .i64 0, .int .i64 0, .pointer none, .int .i64 0, .int .i64 0] := by kernel_rfl
@[simp] theorem zero70 : zeroOf Tryz.prog 70 = some [.int .i64 0, .int .i64 0] := by kernel_rfl
@[simp] theorem zero72 : zeroOf Tryz.prog 72 = some [.slice none 0 0, .int .u64 0, .slice none 0 0, .int .i64 0, .int .i64 0] := by kernel_rfl
@[simp] theorem zero80 : zeroOf Tryz.prog 80 = some [.int .i64 0, .slice none 0 0, .int .i64 0, .int .i64 0, .slice none 0 0] := by kernel_rfl
@[simp] theorem zero92 : zeroOf Tryz.prog 92 = some [.int .u32 0, .int .i64 0] := by kernel_rfl
@[simp] theorem zero94 : zeroOf Tryz.prog 94 = some [.pointer none, .slice none 0 0, .int .u32 0, .int .i64 0, .int .i64 0, .int .i64 0] := by kernel_rfl
@[simp] theorem zero97 : zeroOf Tryz.prog 97 = some [.int .i64 0, .int .i64 0] := by kernel_rfl
@[simp] theorem zero104 : zeroOf Tryz.prog 104 = some [.int .i64 0, .int .i64 0, .int .i64 0, .int .i64 0, .int .i64 0, .int .i64 0, .int .i64 0, .int .i64 0, .int .i64 0, .int .i64 0, .int .i64 0, .int .i64 0, .int .i64 0, .int .i64 0, .int .i64 0, .int .i64 0, .int .i64 0, .int .i64 0, .int .i64 0, .int .i64 0, .int .i64 0, .int .i64 0, .int .i64 0, .int .i64 0, .int .i64 0, .int .i64 0, .int .i64 0, .int .i64 0, .int .i64 0, .int .i64 0, .int .i64 0, .int .i64 0, .int .i64 0, .int .i64 0, .int .i64 0, .int .i64 0, .int .i64 0, .int .i64 0, .int .i64 0, .int .i64 0, .int .i64 0, .int .i64 0, .int .i64 0, .int .i64 0, .int .i64 0, .int .i64 0, .int .i64 0, .int .i64 0, .int .i64 0, .int .i64 0, .int .i64 0, .int .i64 0, .int .i64 0, .int .i64 0, .int .i64 0, .int .i64 0, .int .i64 0, .int .i64 0, .int .i64 0, .int .i64 0, .int .i64 0, .int .i64 0, .int .i64 0, .int .i64 0] := by kernel_rfl
@[simp] theorem zero108 : zeroOf Tryz.prog 108 = some [.pointer none] := by kernel_rfl
@[simp] theorem zero112 : zeroOf Tryz.prog 112 = some [.pointer none, .pointer none, .slice none 0 0, .nilIface] := by kernel_rfl
@[simp] theorem zero117 : zeroOf Tryz.prog 117 = some [.int .i64 0, .slice none 0 0] := by kernel_rfl
@[simp] theorem zero119 : zeroOf Tryz.prog 119 = some [.int .i64 0, .int .i64 0, .int .i64 0, .int .i64 0] := by kernel_rfl
@[simp] theorem zero124 : zeroOf Tryz.prog 124 = some [.slice none 0 0] := by kernel_rfl
@[simp] theorem zero130 : zeroOf Tryz.prog 130 = some [.string (bs []), .int .i64 0] := by kernel_rfl
@[simp] theorem zero148 : zeroOf Tryz.prog 148 = some [.int .i64 0, .int .i64 0, .int .i64 0, .int .i64 0, .int .i64 0] := by kernel_rfl
@[simp] theorem zero150 : zeroOf Tryz.prog 150 = some [.int .i64 0, .int .i64 0, .int .i64 0, .int .i64 0, .int .i64 0, .int .i64 0] := by kernel_rfl
@[simp] theorem zero151 : zeroOf Tryz.prog 151 = some [.int .i64 0, .int .i64 0, .int .i64 0, .int .i64 0, .int .i64 0, .int .i64 0] := by kernel_rfl
@[simp] theorem zero156 : zeroOf Tryz.prog 156 = some [.int .i64 0, .int .i64 0, .slice none 0 0] := by kernel_rfl
@[simp] theorem zero159 : zeroOf Tryz.prog 159 = some [.int .i64 0, .int .i64 0, .slice none 0 0] := by kernel_rfl
@[simp] theorem zero162 : zeroOf Tryz.prog 162 = some [.int .u8 0, .int .i64 0] := by kernel_rfl
@[simp] theorem zero164 : zeroOf Tryz.prog 164 = some [.int .i64 0, .int .i64 0] := by kernel_rfl
@[simp] theorem zero188 : zeroOf Tryz.prog 188 = some [.slice none 0 0, .int .i64 0] := by kernel_rfl
@[simp] theorem zero190 : zeroOf Tryz.prog 190 = some [.int .u64 0] := by kernel_rfl
@[simp] theorem zero192 : zeroOf Tryz.prog 192 = some [.int .i64 0, .int .i64 0, .int .i64 0] := by kernel_rfl
@[simp] theorem zero213 : zeroOf Tryz.prog 213 = some [.string (bs []), .int .i64 0] := by kernel_rfl
@[simp] theorem zero222 : zeroOf Tryz.prog 222 = some [.int .i64 0, .int .i64 0, .slice none 0 0] := by kernel_rfl
@[simp] theorem zero234 : zeroOf Tryz.prog 234 = some [.pointer none, .slice none 0 0, .int .i64 0, .int .i64 0] := by kernel_rfl
@[simp] theorem zero245 : zeroOf Tryz.prog 245 = some [.slice none 0 0] := by kernel_rfl
@[simp] theorem zero247 : zeroOf Tryz.prog 247 = some [.pointer none, .int .i64 0, .int .i64 0, .slice none 0 0] := by kernel_rfl
@[simp] theorem zero254 : zeroOf Tryz.prog 254 = some [.int .i64 0, .int .i64 0, .int .i64 0, .int .i64 0, .int .i64 0, .int .i64 0, .int .i64 0] := by kernel_rfl
end Go.Proofs.YtgkhedmjkahclaaGreat.TL
