/- Facts on the program's types. -/
import Derived.Test.YtgkhedmjkahclaaGreatDoorTD
import Derived.Test.YtgkhedmjkahclaaGreatDoorProg
import Derived.KernelRfl
namespace Go.Proofs.YtgkhedmjkahclaaGreatDoor.TL
open Go
@[simp] theorem ag2 : isAg Tryz.prog 2 = false := by kernel_rfl
@[simp] theorem ag3 : isAg Tryz.prog 3 = false := by kernel_rfl
@[simp] theorem ag4 : isAg Tryz.prog 4 = false := by kernel_rfl
@[simp] theorem ag5 : isAg Tryz.prog 5 = false := by kernel_rfl
@[simp] theorem ag9 : isAg Tryz.prog 9 = false := by kernel_rfl
@[simp] theorem ag24 : isAg Tryz.prog 24 = false := by kernel_rfl
@[simp] theorem ag26 : isAg Tryz.prog 26 = true := by kernel_rfl
@[simp] theorem ag27 : isAg Tryz.prog 27 = false := by kernel_rfl
@[simp] theorem ag28 : isAg Tryz.prog 28 = false := by kernel_rfl
@[simp] theorem ag30 : isAg Tryz.prog 30 = true := by kernel_rfl
@[simp] theorem ag32 : isAg Tryz.prog 32 = true := by kernel_rfl
@[simp] theorem ag39 : isAg Tryz.prog 39 = true := by kernel_rfl
@[simp] theorem ag41 : isAg Tryz.prog 41 = true := by kernel_rfl
@[simp] theorem ag43 : isAg Tryz.prog 43 = true := by kernel_rfl
@[simp] theorem ag44 : isAg Tryz.prog 44 = false := by kernel_rfl
@[simp] theorem ag45 : isAg Tryz.prog 45 = false := by kernel_rfl
@[simp] theorem ag47 : isAg Tryz.prog 47 = true := by kernel_rfl
@[simp] theorem ag49 : isAg Tryz.prog 49 = false := by kernel_rfl
@[simp] theorem ag51 : isAg Tryz.prog 51 = true := by kernel_rfl
@[simp] theorem ag56 : isAg Tryz.prog 56 = false := by kernel_rfl
@[simp] theorem ag57 : isAg Tryz.prog 57 = false := by kernel_rfl
@[simp] theorem ag59 : isAg Tryz.prog 59 = true := by kernel_rfl
@[simp] theorem ag63 : isAg Tryz.prog 63 = false := by kernel_rfl
@[simp] theorem ag64 : isAg Tryz.prog 64 = false := by kernel_rfl
@[simp] theorem ag66 : isAg Tryz.prog 66 = true := by kernel_rfl
@[simp] theorem ag69 : isAg Tryz.prog 69 = false := by kernel_rfl
@[simp] theorem ag70 : isAg Tryz.prog 70 = false := by kernel_rfl
@[simp] theorem ag72 : isAg Tryz.prog 72 = true := by kernel_rfl
@[simp] theorem ag84 : isAg Tryz.prog 84 = false := by kernel_rfl
@[simp] theorem ag99 : isAg Tryz.prog 99 = false := by kernel_rfl
@[simp] theorem ag102 : isAg Tryz.prog 102 = true := by kernel_rfl
@[simp] theorem ag105 : isAg Tryz.prog 105 = false := by kernel_rfl
@[simp] theorem ag109 : isAg Tryz.prog 109 = false := by kernel_rfl
@[simp] theorem ag114 : isAg Tryz.prog 114 = false := by kernel_rfl
@[simp] theorem ag116 : isAg Tryz.prog 116 = true := by kernel_rfl
@[simp] theorem ag117 : isAg Tryz.prog 117 = false := by kernel_rfl
@[simp] theorem ag119 : isAg Tryz.prog 119 = true := by kernel_rfl
@[simp] theorem ag122 : isAg Tryz.prog 122 = true := by kernel_rfl
@[simp] theorem ag126 : isAg Tryz.prog 126 = false := by kernel_rfl
@[simp] theorem ag130 : isAg Tryz.prog 130 = false := by kernel_rfl
@[simp] theorem ag135 : isAg Tryz.prog 135 = false := by kernel_rfl
@[simp] theorem ag140 : isAg Tryz.prog 140 = true := by kernel_rfl
@[simp] theorem ag150 : isAg Tryz.prog 150 = true := by kernel_rfl
@[simp] theorem ag156 : isAg Tryz.prog 156 = true := by kernel_rfl
@[simp] theorem ag157 : isAg Tryz.prog 157 = true := by kernel_rfl
@[simp] theorem ag165 : isAg Tryz.prog 165 = false := by kernel_rfl
@[simp] theorem ag169 : isAg Tryz.prog 169 = false := by kernel_rfl
@[simp] theorem ag179 : isAg Tryz.prog 179 = true := by kernel_rfl
@[simp] theorem ag182 : isAg Tryz.prog 182 = false := by kernel_rfl
@[simp] theorem ag184 : isAg Tryz.prog 184 = true := by kernel_rfl
@[simp] theorem ag198 : isAg Tryz.prog 198 = false := by kernel_rfl
@[simp] theorem ag201 : isAg Tryz.prog 201 = false := by kernel_rfl
@[simp] theorem ag205 : isAg Tryz.prog 205 = true := by kernel_rfl
@[simp] theorem ag209 : isAg Tryz.prog 209 = false := by kernel_rfl
@[simp] theorem ag223 : isAg Tryz.prog 223 = true := by kernel_rfl
@[simp] theorem ar22 : arrOf Tryz.prog 22 = none := by kernel_rfl
@[simp] theorem ar24 : arrOf Tryz.prog 24 = none := by kernel_rfl
@[simp] theorem ar28 : arrOf Tryz.prog 28 = none := by kernel_rfl
@[simp] theorem ar44 : arrOf Tryz.prog 44 = none := by kernel_rfl
@[simp] theorem ar45 : arrOf Tryz.prog 45 = none := by kernel_rfl
@[simp] theorem ar49 : arrOf Tryz.prog 49 = none := by kernel_rfl
@[simp] theorem ar56 : arrOf Tryz.prog 56 = none := by kernel_rfl
@[simp] theorem ar57 : arrOf Tryz.prog 57 = none := by kernel_rfl
@[simp] theorem ar69 : arrOf Tryz.prog 69 = none := by kernel_rfl
@[simp] theorem ar70 : arrOf Tryz.prog 70 = none := by kernel_rfl
@[simp] theorem ar99 : arrOf Tryz.prog 99 = none := by kernel_rfl
@[simp] theorem ar106 : arrOf Tryz.prog 106 = some (6, 1) := by kernel_rfl
@[simp] theorem ar117 : arrOf Tryz.prog 117 = none := by kernel_rfl
@[simp] theorem ar127 : arrOf Tryz.prog 127 = some (64, 1) := by kernel_rfl
@[simp] theorem ar146 : arrOf Tryz.prog 146 = none := by kernel_rfl
@[simp] theorem ar165 : arrOf Tryz.prog 165 = none := by kernel_rfl
@[simp] theorem ar169 : arrOf Tryz.prog 169 = none := by kernel_rfl
@[simp] theorem ar175 : arrOf Tryz.prog 175 = none := by kernel_rfl
@[simp] theorem ar177 : arrOf Tryz.prog 177 = some (5, 1) := by kernel_rfl
@[simp] theorem ar198 : arrOf Tryz.prog 198 = none := by kernel_rfl
@[simp] theorem ar205 : arrOf Tryz.prog 205 = some (32, 1) := by kernel_rfl
@[simp] theorem ar223 : arrOf Tryz.prog 223 = some (7, 1) := by kernel_rfl
@[simp] theorem by2 : byOf Tryz.prog 2 = 8 := by kernel_rfl
@[simp] theorem by3 : byOf Tryz.prog 3 = 8 := by kernel_rfl
@[simp] theorem by5 : byOf Tryz.prog 5 = 1 := by kernel_rfl
@[simp] theorem by72 : byOf Tryz.prog 72 = 32 := by kernel_rfl
@[simp] theorem by102 : byOf Tryz.prog 102 = 32 := by kernel_rfl
@[simp] theorem by116 : byOf Tryz.prog 116 = 16 := by kernel_rfl
@[simp] theorem by140 : byOf Tryz.prog 140 = 40 := by kernel_rfl
@[simp] theorem by150 : byOf Tryz.prog 150 = 32 := by kernel_rfl
@[simp] theorem by156 : byOf Tryz.prog 156 = 40 := by kernel_rfl
@[simp] theorem by157 : byOf Tryz.prog 157 = 32 := by kernel_rfl
@[simp] theorem by179 : byOf Tryz.prog 179 = 48 := by kernel_rfl
@[simp] theorem by201 : byOf Tryz.prog 201 = 8 := by kernel_rfl
@[simp] theorem cc133 : Tryz.prog.concrete 133 = true := by kernel_rfl
@[simp] theorem el9 : elemOf Tryz.prog 9 = none := by kernel_rfl
@[simp] theorem el22 : elemOf Tryz.prog 22 = some 6 := by kernel_rfl
@[simp] theorem el24 : elemOf Tryz.prog 24 = some 3 := by kernel_rfl
@[simp] theorem el28 : elemOf Tryz.prog 28 = some 1 := by kernel_rfl
@[simp] theorem el44 : elemOf Tryz.prog 44 = some 3 := by kernel_rfl
@[simp] theorem el45 : elemOf Tryz.prog 45 = some 2 := by kernel_rfl
@[simp] theorem el49 : elemOf Tryz.prog 49 = some 1 := by kernel_rfl
@[simp] theorem el56 : elemOf Tryz.prog 56 = some 3 := by kernel_rfl
@[simp] theorem el57 : elemOf Tryz.prog 57 = some 2 := by kernel_rfl
@[simp] theorem el69 : elemOf Tryz.prog 69 = some 4 := by kernel_rfl
@[simp] theorem el70 : elemOf Tryz.prog 70 = some 4 := by kernel_rfl
@[simp] theorem el84 : elemOf Tryz.prog 84 = some 1 := by kernel_rfl
@[simp] theorem el99 : elemOf Tryz.prog 99 = some 4 := by kernel_rfl
@[simp] theorem el106 : elemOf Tryz.prog 106 = none := by kernel_rfl
@[simp] theorem el117 : elemOf Tryz.prog 117 = some 2 := by kernel_rfl
@[simp] theorem el127 : elemOf Tryz.prog 127 = none := by kernel_rfl
@[simp] theorem el146 : elemOf Tryz.prog 146 = some 1 := by kernel_rfl
@[simp] theorem el165 : elemOf Tryz.prog 165 = some 1 := by kernel_rfl
@[simp] theorem el169 : elemOf Tryz.prog 169 = some 6 := by kernel_rfl
@[simp] theorem el175 : elemOf Tryz.prog 175 = some 1 := by kernel_rfl
@[simp] theorem el177 : elemOf Tryz.prog 177 = none := by kernel_rfl
@[simp] theorem el198 : elemOf Tryz.prog 198 = some 1 := by kernel_rfl
@[simp] theorem el205 : elemOf Tryz.prog 205 = none := by kernel_rfl
@[simp] theorem el223 : elemOf Tryz.prog 223 = none := by kernel_rfl
@[simp] theorem sc2 : scal Tryz.prog 2 = some 0 := by kernel_rfl
@[simp] theorem sc3 : scal Tryz.prog 3 = some 0 := by kernel_rfl
@[simp] theorem sc4 : scal Tryz.prog 4 = some 2 := by kernel_rfl
@[simp] theorem sc9 : scal Tryz.prog 9 = some 1 := by kernel_rfl
@[simp] theorem eq30 : eqOf Tryz.prog 30 = some [(0, 0), (1, 0)] := by kernel_rfl
@[simp] theorem pt34 : isPtr Tryz.prog 34 = true := by kernel_rfl
@[simp] theorem sc35 : scal Tryz.prog 35 = some 0 := by kernel_rfl
@[simp] theorem eq41 : eqOf Tryz.prog 41 = some [(0, 0), (1, 0)] := by kernel_rfl
@[simp] theorem pt63 : isPtr Tryz.prog 63 = true := by kernel_rfl
@[simp] theorem sc64 : scal Tryz.prog 64 = some 0 := by kernel_rfl
@[simp] theorem sc114 : scal Tryz.prog 114 = some 0 := by kernel_rfl
@[simp] theorem is165 : isSlice Tryz.prog 165 = true := by kernel_rfl
@[simp] theorem is169 : isSlice Tryz.prog 169 = true := by kernel_rfl
@[simp] theorem sc182 : scal Tryz.prog 182 = some 0 := by kernel_rfl
@[simp] theorem fd26_0 : fieldOf Tryz.prog 26 0 = some (0, 1, false) := by kernel_rfl
@[simp] theorem fd30_0 : fieldOf Tryz.prog 30 0 = some (0, 1, false) := by kernel_rfl
@[simp] theorem fd30_1 : fieldOf Tryz.prog 30 1 = some (1, 1, false) := by kernel_rfl
@[simp] theorem fd32_0 : fieldOf Tryz.prog 32 0 = some (0, 1, true) := by kernel_rfl
@[simp] theorem fd32_1 : fieldOf Tryz.prog 32 1 = some (1, 1, false) := by kernel_rfl
@[simp] theorem fd32_2 : fieldOf Tryz.prog 32 2 = some (2, 1, false) := by kernel_rfl
@[simp] theorem fd32_3 : fieldOf Tryz.prog 32 3 = some (3, 2, true) := by kernel_rfl
@[simp] theorem fd39_0 : fieldOf Tryz.prog 39 0 = some (0, 1, false) := by kernel_rfl
@[simp] theorem fd39_1 : fieldOf Tryz.prog 39 1 = some (1, 1, false) := by kernel_rfl
@[simp] theorem fd41_0 : fieldOf Tryz.prog 41 0 = some (0, 1, false) := by kernel_rfl
@[simp] theorem fd41_1 : fieldOf Tryz.prog 41 1 = some (1, 1, false) := by kernel_rfl
@[simp] theorem fd43_0 : fieldOf Tryz.prog 43 0 = some (0, 2, true) := by kernel_rfl
@[simp] theorem fd43_1 : fieldOf Tryz.prog 43 1 = some (2, 2, true) := by kernel_rfl
@[simp] theorem fd43_2 : fieldOf Tryz.prog 43 2 = some (4, 1, false) := by kernel_rfl
@[simp] theorem fd47_0 : fieldOf Tryz.prog 47 0 = some (0, 1, false) := by kernel_rfl
@[simp] theorem fd47_1 : fieldOf Tryz.prog 47 1 = some (1, 1, false) := by kernel_rfl
@[simp] theorem fd47_2 : fieldOf Tryz.prog 47 2 = some (2, 2, true) := by kernel_rfl
@[simp] theorem fd47_3 : fieldOf Tryz.prog 47 3 = some (4, 1, false) := by kernel_rfl
@[simp] theorem fd51_0 : fieldOf Tryz.prog 51 0 = some (0, 1, false) := by kernel_rfl
@[simp] theorem fd51_1 : fieldOf Tryz.prog 51 1 = some (1, 1, false) := by kernel_rfl
@[simp] theorem fd51_2 : fieldOf Tryz.prog 51 2 = some (2, 1, false) := by kernel_rfl
@[simp] theorem fd51_3 : fieldOf Tryz.prog 51 3 = some (3, 1, false) := by kernel_rfl
@[simp] theorem fd51_4 : fieldOf Tryz.prog 51 4 = some (4, 1, false) := by kernel_rfl
@[simp] theorem fd51_5 : fieldOf Tryz.prog 51 5 = some (5, 1, false) := by kernel_rfl
@[simp] theorem fd59_0 : fieldOf Tryz.prog 59 0 = some (0, 1, false) := by kernel_rfl
@[simp] theorem fd59_1 : fieldOf Tryz.prog 59 1 = some (1, 1, false) := by kernel_rfl
@[simp] theorem fd59_2 : fieldOf Tryz.prog 59 2 = some (2, 2, true) := by kernel_rfl
@[simp] theorem fd59_3 : fieldOf Tryz.prog 59 3 = some (4, 1, false) := by kernel_rfl
@[simp] theorem fd66_0 : fieldOf Tryz.prog 66 0 = some (0, 1, false) := by kernel_rfl
@[simp] theorem fd66_1 : fieldOf Tryz.prog 66 1 = some (1, 1, false) := by kernel_rfl
@[simp] theorem fd68_0 : fieldOf Tryz.prog 68 0 = some (0, 1, false) := by kernel_rfl
@[simp] theorem fd68_2 : fieldOf Tryz.prog 68 2 = some (2, 2, true) := by kernel_rfl
@[simp] theorem fd68_3 : fieldOf Tryz.prog 68 3 = some (4, 2, true) := by kernel_rfl
@[simp] theorem fd72_0 : fieldOf Tryz.prog 72 0 = some (0, 1, false) := by kernel_rfl
@[simp] theorem fd72_1 : fieldOf Tryz.prog 72 1 = some (1, 1, false) := by kernel_rfl
@[simp] theorem fd86_0 : fieldOf Tryz.prog 86 0 = some (0, 1, false) := by kernel_rfl
@[simp] theorem fd102_0 : fieldOf Tryz.prog 102 0 = some (0, 1, false) := by kernel_rfl
@[simp] theorem fd102_1 : fieldOf Tryz.prog 102 1 = some (1, 1, false) := by kernel_rfl
@[simp] theorem fd108_0 : fieldOf Tryz.prog 108 0 = some (0, 1, false) := by kernel_rfl
@[simp] theorem fd108_1 : fieldOf Tryz.prog 108 1 = some (1, 6, true) := by kernel_rfl
@[simp] theorem fd111_0 : fieldOf Tryz.prog 111 0 = some (0, 1, false) := by kernel_rfl
@[simp] theorem fd111_1 : fieldOf Tryz.prog 111 1 = some (1, 7, true) := by kernel_rfl
@[simp] theorem fd111_2 : fieldOf Tryz.prog 111 2 = some (8, 1, false) := by kernel_rfl
@[simp] theorem fd111_3 : fieldOf Tryz.prog 111 3 = some (9, 1, false) := by kernel_rfl
@[simp] theorem fd111_4 : fieldOf Tryz.prog 111 4 = some (10, 1, false) := by kernel_rfl
@[simp] theorem fd116_0 : fieldOf Tryz.prog 116 0 = some (0, 1, false) := by kernel_rfl
@[simp] theorem fd116_1 : fieldOf Tryz.prog 116 1 = some (1, 1, false) := by kernel_rfl
@[simp] theorem fd119_0 : fieldOf Tryz.prog 119 0 = some (0, 1, false) := by kernel_rfl
@[simp] theorem fd119_1 : fieldOf Tryz.prog 119 1 = some (1, 1, false) := by kernel_rfl
@[simp] theorem fd119_2 : fieldOf Tryz.prog 119 2 = some (2, 1, false) := by kernel_rfl
@[simp] theorem fd129_0 : fieldOf Tryz.prog 129 0 = some (0, 64, true) := by kernel_rfl
@[simp] theorem fd133_0 : fieldOf Tryz.prog 133 0 = some (0, 1, false) := by kernel_rfl
@[simp] theorem fd137_0 : fieldOf Tryz.prog 137 0 = some (0, 1, false) := by kernel_rfl
@[simp] theorem fd137_1 : fieldOf Tryz.prog 137 1 = some (1, 1, false) := by kernel_rfl
@[simp] theorem fd137_2 : fieldOf Tryz.prog 137 2 = some (2, 1, true) := by kernel_rfl
@[simp] theorem fd137_3 : fieldOf Tryz.prog 137 3 = some (3, 1, false) := by kernel_rfl
@[simp] theorem fd140_0 : fieldOf Tryz.prog 140 0 = some (0, 1, false) := by kernel_rfl
@[simp] theorem fd140_1 : fieldOf Tryz.prog 140 1 = some (1, 1, false) := by kernel_rfl
@[simp] theorem fd140_2 : fieldOf Tryz.prog 140 2 = some (2, 1, false) := by kernel_rfl
@[simp] theorem fd150_0 : fieldOf Tryz.prog 150 0 = some (0, 1, false) := by kernel_rfl
@[simp] theorem fd150_1 : fieldOf Tryz.prog 150 1 = some (1, 1, false) := by kernel_rfl
@[simp] theorem fd150_2 : fieldOf Tryz.prog 150 2 = some (2, 1, false) := by kernel_rfl
@[simp] theorem fd150_3 : fieldOf Tryz.prog 150 3 = some (3, 1, false) := by kernel_rfl
@[simp] theorem fd156_0 : fieldOf Tryz.prog 156 0 = some (0, 1, false) := by kernel_rfl
@[simp] theorem fd156_1 : fieldOf Tryz.prog 156 1 = some (1, 1, false) := by kernel_rfl
@[simp] theorem fd156_2 : fieldOf Tryz.prog 156 2 = some (2, 1, false) := by kernel_rfl
@[simp] theorem fd157_0 : fieldOf Tryz.prog 157 0 = some (0, 1, false) := by kernel_rfl
@[simp] theorem fd157_1 : fieldOf Tryz.prog 157 1 = some (1, 1, false) := by kernel_rfl
@[simp] theorem fd157_2 : fieldOf Tryz.prog 157 2 = some (2, 1, false) := by kernel_rfl
@[simp] theorem fd157_3 : fieldOf Tryz.prog 157 3 = some (3, 1, false) := by kernel_rfl
@[simp] theorem fd171_0 : fieldOf Tryz.prog 171 0 = some (0, 1, false) := by kernel_rfl
@[simp] theorem fd171_1 : fieldOf Tryz.prog 171 1 = some (1, 1, false) := by kernel_rfl
@[simp] theorem fd173_0 : fieldOf Tryz.prog 173 0 = some (0, 1, false) := by kernel_rfl
@[simp] theorem fd179_0 : fieldOf Tryz.prog 179 0 = some (0, 1, false) := by kernel_rfl
@[simp] theorem fd179_1 : fieldOf Tryz.prog 179 1 = some (1, 5, true) := by kernel_rfl
@[simp] theorem fd184_0 : fieldOf Tryz.prog 184 0 = some (0, 1, false) := by kernel_rfl
@[simp] theorem fd184_2 : fieldOf Tryz.prog 184 2 = some (2, 1, false) := by kernel_rfl
@[simp] theorem fd200_0 : fieldOf Tryz.prog 200 0 = some (0, 1, false) := by kernel_rfl
@[simp] theorem fd200_1 : fieldOf Tryz.prog 200 1 = some (1, 1, false) := by kernel_rfl
@[simp] theorem fd200_2 : fieldOf Tryz.prog 200 2 = some (2, 1, false) := by kernel_rfl
@[simp] theorem fd200_3 : fieldOf Tryz.prog 200 3 = some (3, 1, false) := by kernel_rfl
@[simp] theorem fd211_0 : fieldOf Tryz.prog 211 0 = some (0, 1, false) := by kernel_rfl
@[simp] theorem fd213_0 : fieldOf Tryz.prog 213 0 = some (0, 1, false) := by kernel_rfl
@[simp] theorem fd213_1 : fieldOf Tryz.prog 213 1 = some (1, 1, false) := by kernel_rfl
@[simp] theorem fd213_2 : fieldOf Tryz.prog 213 2 = some (2, 1, false) := by kernel_rfl
@[simp] theorem fd213_3 : fieldOf Tryz.prog 213 3 = some (3, 1, false) := by kernel_rfl
@[simp] theorem hu2 : hasU Tryz.prog 2 = true := by kernel_rfl
@[simp] theorem hu3 : hasU Tryz.prog 3 = true := by kernel_rfl
@[simp] theorem hu4 : hasU Tryz.prog 4 = true := by kernel_rfl
@[simp] theorem hu5 : hasU Tryz.prog 5 = true := by kernel_rfl
@[simp] theorem hu9 : hasU Tryz.prog 9 = true := by kernel_rfl
@[simp] theorem hu24 : hasU Tryz.prog 24 = true := by kernel_rfl
@[simp] theorem hu26 : hasU Tryz.prog 26 = true := by kernel_rfl
@[simp] theorem hu27 : hasU Tryz.prog 27 = true := by kernel_rfl
@[simp] theorem hu28 : hasU Tryz.prog 28 = true := by kernel_rfl
@[simp] theorem hu30 : hasU Tryz.prog 30 = true := by kernel_rfl
@[simp] theorem hu32 : hasU Tryz.prog 32 = true := by kernel_rfl
@[simp] theorem hu39 : hasU Tryz.prog 39 = true := by kernel_rfl
@[simp] theorem hu41 : hasU Tryz.prog 41 = true := by kernel_rfl
@[simp] theorem hu43 : hasU Tryz.prog 43 = true := by kernel_rfl
@[simp] theorem hu44 : hasU Tryz.prog 44 = true := by kernel_rfl
@[simp] theorem hu45 : hasU Tryz.prog 45 = true := by kernel_rfl
@[simp] theorem hu47 : hasU Tryz.prog 47 = true := by kernel_rfl
@[simp] theorem hu49 : hasU Tryz.prog 49 = true := by kernel_rfl
@[simp] theorem hu51 : hasU Tryz.prog 51 = true := by kernel_rfl
@[simp] theorem hu56 : hasU Tryz.prog 56 = true := by kernel_rfl
@[simp] theorem hu57 : hasU Tryz.prog 57 = true := by kernel_rfl
@[simp] theorem hu59 : hasU Tryz.prog 59 = true := by kernel_rfl
@[simp] theorem hu63 : hasU Tryz.prog 63 = true := by kernel_rfl
@[simp] theorem hu64 : hasU Tryz.prog 64 = true := by kernel_rfl
@[simp] theorem hu66 : hasU Tryz.prog 66 = true := by kernel_rfl
@[simp] theorem hu69 : hasU Tryz.prog 69 = true := by kernel_rfl
@[simp] theorem hu70 : hasU Tryz.prog 70 = true := by kernel_rfl
@[simp] theorem hu72 : hasU Tryz.prog 72 = true := by kernel_rfl
@[simp] theorem hu84 : hasU Tryz.prog 84 = true := by kernel_rfl
@[simp] theorem hu99 : hasU Tryz.prog 99 = true := by kernel_rfl
@[simp] theorem hu102 : hasU Tryz.prog 102 = true := by kernel_rfl
@[simp] theorem hu105 : hasU Tryz.prog 105 = true := by kernel_rfl
@[simp] theorem hu109 : hasU Tryz.prog 109 = true := by kernel_rfl
@[simp] theorem hu114 : hasU Tryz.prog 114 = true := by kernel_rfl
@[simp] theorem hu116 : hasU Tryz.prog 116 = true := by kernel_rfl
@[simp] theorem hu117 : hasU Tryz.prog 117 = true := by kernel_rfl
@[simp] theorem hu119 : hasU Tryz.prog 119 = true := by kernel_rfl
@[simp] theorem hu122 : hasU Tryz.prog 122 = true := by kernel_rfl
@[simp] theorem hu126 : hasU Tryz.prog 126 = true := by kernel_rfl
@[simp] theorem hu130 : hasU Tryz.prog 130 = true := by kernel_rfl
@[simp] theorem hu135 : hasU Tryz.prog 135 = true := by kernel_rfl
@[simp] theorem hu140 : hasU Tryz.prog 140 = true := by kernel_rfl
@[simp] theorem hu150 : hasU Tryz.prog 150 = true := by kernel_rfl
@[simp] theorem hu156 : hasU Tryz.prog 156 = true := by kernel_rfl
@[simp] theorem hu157 : hasU Tryz.prog 157 = true := by kernel_rfl
@[simp] theorem hu164 : hasU Tryz.prog 164 = true := by kernel_rfl
@[simp] theorem hu165 : hasU Tryz.prog 165 = true := by kernel_rfl
@[simp] theorem hu169 : hasU Tryz.prog 169 = true := by kernel_rfl
@[simp] theorem hu179 : hasU Tryz.prog 179 = true := by kernel_rfl
@[simp] theorem hu182 : hasU Tryz.prog 182 = true := by kernel_rfl
@[simp] theorem hu184 : hasU Tryz.prog 184 = true := by kernel_rfl
@[simp] theorem hu198 : hasU Tryz.prog 198 = true := by kernel_rfl
@[simp] theorem hu201 : hasU Tryz.prog 201 = true := by kernel_rfl
@[simp] theorem hu205 : hasU Tryz.prog 205 = true := by kernel_rfl
@[simp] theorem hu209 : hasU Tryz.prog 209 = true := by kernel_rfl
@[simp] theorem hu223 : hasU Tryz.prog 223 = true := by kernel_rfl
@[simp] theorem kd2 : kdOf Tryz.prog 2 = .int .i64 := by kernel_rfl
@[simp] theorem kd3 : kdOf Tryz.prog 3 = .int .i64 := by kernel_rfl
@[simp] theorem kd5 : kdOf Tryz.prog 5 = .int .u8 := by kernel_rfl
@[simp] theorem kd9 : kdOf Tryz.prog 9 = .str := by kernel_rfl
@[simp] theorem kd22 : kdOf Tryz.prog 22 = .other := by kernel_rfl
@[simp] theorem kd24 : kdOf Tryz.prog 24 = .other := by kernel_rfl
@[simp] theorem kd27 : kdOf Tryz.prog 27 = .int .u64 := by kernel_rfl
@[simp] theorem kd28 : kdOf Tryz.prog 28 = .other := by kernel_rfl
@[simp] theorem kd44 : kdOf Tryz.prog 44 = .other := by kernel_rfl
@[simp] theorem kd45 : kdOf Tryz.prog 45 = .other := by kernel_rfl
@[simp] theorem kd49 : kdOf Tryz.prog 49 = .other := by kernel_rfl
@[simp] theorem kd56 : kdOf Tryz.prog 56 = .other := by kernel_rfl
@[simp] theorem kd57 : kdOf Tryz.prog 57 = .other := by kernel_rfl
@[simp] theorem kd64 : kdOf Tryz.prog 64 = .int .u32 := by kernel_rfl
@[simp] theorem kd69 : kdOf Tryz.prog 69 = .other := by kernel_rfl
@[simp] theorem kd70 : kdOf Tryz.prog 70 = .other := by kernel_rfl
@[simp] theorem kd84 : kdOf Tryz.prog 84 = .bytes := by kernel_rfl
@[simp] theorem kd99 : kdOf Tryz.prog 99 = .other := by kernel_rfl
@[simp] theorem kd106 : kdOf Tryz.prog 106 = .other := by kernel_rfl
@[simp] theorem kd117 : kdOf Tryz.prog 117 = .other := by kernel_rfl
@[simp] theorem kd127 : kdOf Tryz.prog 127 = .other := by kernel_rfl
@[simp] theorem kd146 : kdOf Tryz.prog 146 = .other := by kernel_rfl
@[simp] theorem kd164 : kdOf Tryz.prog 164 = .int .u64 := by kernel_rfl
@[simp] theorem kd165 : kdOf Tryz.prog 165 = .other := by kernel_rfl
@[simp] theorem kd169 : kdOf Tryz.prog 169 = .other := by kernel_rfl
@[simp] theorem kd175 : kdOf Tryz.prog 175 = .other := by kernel_rfl
@[simp] theorem kd177 : kdOf Tryz.prog 177 = .other := by kernel_rfl
@[simp] theorem kd198 : kdOf Tryz.prog 198 = .other := by kernel_rfl
@[simp] theorem me133_Do : methOf Tryz.prog 133 "Do" = some 133 := by kernel_rfl
@[simp] theorem plc26 : plcOf Tryz.prog 26 = some [(0, 1)] := by kernel_rfl
@[simp] theorem plc30 : plcOf Tryz.prog 30 = some [(0, 1), (1, 1)] := by kernel_rfl
@[simp] theorem plc32 : plcOf Tryz.prog 32 = some [(0, 1), (1, 1), (2, 1), (3, 2)] := by kernel_rfl
@[simp] theorem plc39 : plcOf Tryz.prog 39 = some [(0, 1), (1, 1)] := by kernel_rfl
@[simp] theorem plc43 : plcOf Tryz.prog 43 = some [(0, 2), (2, 2), (4, 1)] := by kernel_rfl
@[simp] theorem plc47 : plcOf Tryz.prog 47 = some [(0, 1), (1, 1), (2, 2), (4, 1)] := by kernel_rfl
@[simp] theorem plc59 : plcOf Tryz.prog 59 = some [(0, 1), (1, 1), (2, 2), (4, 1)] := by kernel_rfl
@[simp] theorem plc68 : plcOf Tryz.prog 68 = some [(0, 1), (1, 1), (2, 2), (4, 2)] := by kernel_rfl
@[simp] theorem plc72 : plcOf Tryz.prog 72 = some [(0, 1), (1, 1)] := by kernel_rfl
@[simp] theorem plc102 : plcOf Tryz.prog 102 = some [(0, 1), (1, 1)] := by kernel_rfl
@[simp] theorem plc111 : plcOf Tryz.prog 111 = some [(0, 1), (1, 7), (8, 1), (9, 1), (10, 1)] := by kernel_rfl
@[simp] theorem plc116 : plcOf Tryz.prog 116 = some [(0, 1), (1, 1)] := by kernel_rfl
@[simp] theorem plc119 : plcOf Tryz.prog 119 = some [(0, 1), (1, 1), (2, 1)] := by kernel_rfl
@[simp] theorem plc122 : plcOf Tryz.prog 122 = some [(0, 1), (1, 1)] := by kernel_rfl
@[simp] theorem plc129 : plcOf Tryz.prog 129 = some [(0, 64)] := by kernel_rfl
@[simp] theorem plc133 : plcOf Tryz.prog 133 = some [(0, 1)] := by kernel_rfl
@[simp] theorem plc137 : plcOf Tryz.prog 137 = some [(0, 1), (1, 1), (2, 1), (3, 1)] := by kernel_rfl
@[simp] theorem plc171 : plcOf Tryz.prog 171 = some [(0, 1), (1, 1)] := by kernel_rfl
@[simp] theorem plc173 : plcOf Tryz.prog 173 = some [(0, 1)] := by kernel_rfl
@[simp] theorem plc177 : plcOf Tryz.prog 177 = some [(0, 1), (1, 1), (2, 1), (3, 1), (4, 1)] := by kernel_rfl
@[simp] theorem plc179 : plcOf Tryz.prog 179 = some [(0, 1), (1, 5)] := by kernel_rfl
@[simp] theorem plc184 : plcOf Tryz.prog 184 = some [(0, 1), (1, 1), (2, 1)] := by kernel_rfl
@[simp] theorem plc200 : plcOf Tryz.prog 200 = some [(0, 1), (1, 1), (2, 1), (3, 1)] := by kernel_rfl
@[simp] theorem plc205 : plcOf Tryz.prog 205 = some [(0, 1), (1, 1), (2, 1), (3, 1), (4, 1), (5, 1), (6, 1), (7, 1), (8, 1), (9, 1), (10, 1), (11, 1), (12, 1), (13, 1), (14, 1), (15, 1), (16, 1), (17, 1), (18, 1), (19, 1), (20, 1), (21, 1), (22, 1), (23, 1), (24, 1), (25, 1), (26, 1), (27, 1), (28, 1), (29, 1), (30, 1), (31, 1)] := by kernel_rfl
@[simp] theorem plc211 : plcOf Tryz.prog 211 = some [(0, 1)] := by kernel_rfl
@[simp] theorem plc213 : plcOf Tryz.prog 213 = some [(0, 1), (1, 1), (2, 1), (3, 1)] := by kernel_rfl
@[simp] theorem plc223 : plcOf Tryz.prog 223 = some [(0, 1), (1, 1), (2, 1), (3, 1), (4, 1), (5, 1), (6, 1)] := by kernel_rfl
@[simp] theorem sz2 : szOf Tryz.prog 2 = 1 := by kernel_rfl
@[simp] theorem sz3 : szOf Tryz.prog 3 = 1 := by kernel_rfl
@[simp] theorem sz4 : szOf Tryz.prog 4 = 1 := by kernel_rfl
@[simp] theorem sz5 : szOf Tryz.prog 5 = 1 := by kernel_rfl
@[simp] theorem sz9 : szOf Tryz.prog 9 = 1 := by kernel_rfl
@[simp] theorem sz24 : szOf Tryz.prog 24 = 1 := by kernel_rfl
@[simp] theorem sz26 : szOf Tryz.prog 26 = 1 := by kernel_rfl
@[simp] theorem sz27 : szOf Tryz.prog 27 = 1 := by kernel_rfl
@[simp] theorem sz28 : szOf Tryz.prog 28 = 1 := by kernel_rfl
@[simp] theorem sz30 : szOf Tryz.prog 30 = 2 := by kernel_rfl
@[simp] theorem sz32 : szOf Tryz.prog 32 = 5 := by kernel_rfl
@[simp] theorem sz39 : szOf Tryz.prog 39 = 2 := by kernel_rfl
@[simp] theorem sz41 : szOf Tryz.prog 41 = 2 := by kernel_rfl
@[simp] theorem sz43 : szOf Tryz.prog 43 = 5 := by kernel_rfl
@[simp] theorem sz44 : szOf Tryz.prog 44 = 1 := by kernel_rfl
@[simp] theorem sz45 : szOf Tryz.prog 45 = 1 := by kernel_rfl
@[simp] theorem sz47 : szOf Tryz.prog 47 = 5 := by kernel_rfl
@[simp] theorem sz49 : szOf Tryz.prog 49 = 1 := by kernel_rfl
@[simp] theorem sz51 : szOf Tryz.prog 51 = 6 := by kernel_rfl
@[simp] theorem sz56 : szOf Tryz.prog 56 = 1 := by kernel_rfl
@[simp] theorem sz57 : szOf Tryz.prog 57 = 1 := by kernel_rfl
@[simp] theorem sz59 : szOf Tryz.prog 59 = 5 := by kernel_rfl
@[simp] theorem sz63 : szOf Tryz.prog 63 = 1 := by kernel_rfl
@[simp] theorem sz64 : szOf Tryz.prog 64 = 1 := by kernel_rfl
@[simp] theorem sz66 : szOf Tryz.prog 66 = 2 := by kernel_rfl
@[simp] theorem sz69 : szOf Tryz.prog 69 = 1 := by kernel_rfl
@[simp] theorem sz70 : szOf Tryz.prog 70 = 1 := by kernel_rfl
@[simp] theorem sz72 : szOf Tryz.prog 72 = 2 := by kernel_rfl
@[simp] theorem sz84 : szOf Tryz.prog 84 = 1 := by kernel_rfl
@[simp] theorem sz99 : szOf Tryz.prog 99 = 1 := by kernel_rfl
@[simp] theorem sz102 : szOf Tryz.prog 102 = 2 := by kernel_rfl
@[simp] theorem sz105 : szOf Tryz.prog 105 = 1 := by kernel_rfl
@[simp] theorem sz109 : szOf Tryz.prog 109 = 1 := by kernel_rfl
@[simp] theorem sz114 : szOf Tryz.prog 114 = 1 := by kernel_rfl
@[simp] theorem sz116 : szOf Tryz.prog 116 = 2 := by kernel_rfl
@[simp] theorem sz117 : szOf Tryz.prog 117 = 1 := by kernel_rfl
@[simp] theorem sz119 : szOf Tryz.prog 119 = 3 := by kernel_rfl
@[simp] theorem sz122 : szOf Tryz.prog 122 = 2 := by kernel_rfl
@[simp] theorem sz126 : szOf Tryz.prog 126 = 1 := by kernel_rfl
@[simp] theorem sz130 : szOf Tryz.prog 130 = 1 := by kernel_rfl
@[simp] theorem sz135 : szOf Tryz.prog 135 = 1 := by kernel_rfl
@[simp] theorem sz140 : szOf Tryz.prog 140 = 3 := by kernel_rfl
@[simp] theorem sz150 : szOf Tryz.prog 150 = 4 := by kernel_rfl
@[simp] theorem sz156 : szOf Tryz.prog 156 = 3 := by kernel_rfl
@[simp] theorem sz157 : szOf Tryz.prog 157 = 4 := by kernel_rfl
@[simp] theorem sz165 : szOf Tryz.prog 165 = 1 := by kernel_rfl
@[simp] theorem sz169 : szOf Tryz.prog 169 = 1 := by kernel_rfl
@[simp] theorem sz179 : szOf Tryz.prog 179 = 6 := by kernel_rfl
@[simp] theorem sz182 : szOf Tryz.prog 182 = 1 := by kernel_rfl
@[simp] theorem sz184 : szOf Tryz.prog 184 = 3 := by kernel_rfl
@[simp] theorem sz198 : szOf Tryz.prog 198 = 1 := by kernel_rfl
@[simp] theorem sz201 : szOf Tryz.prog 201 = 1 := by kernel_rfl
@[simp] theorem sz205 : szOf Tryz.prog 205 = 32 := by kernel_rfl
@[simp] theorem sz209 : szOf Tryz.prog 209 = 1 := by kernel_rfl
@[simp] theorem sz223 : szOf Tryz.prog 223 = 7 := by kernel_rfl
@[simp] theorem un28 : Tryz.prog.underlying 28 = some (.slice 3) := by kernel_rfl
@[simp] theorem un44 : Tryz.prog.underlying 44 = some (.slice 140) := by kernel_rfl
@[simp] theorem un45 : Tryz.prog.underlying 45 = some (.slice 72) := by kernel_rfl
@[simp] theorem un56 : Tryz.prog.underlying 56 = some (.slice 156) := by kernel_rfl
@[simp] theorem un57 : Tryz.prog.underlying 57 = some (.slice 102) := by kernel_rfl
@[simp] theorem un70 : Tryz.prog.underlying 70 = some (.slice 150) := by kernel_rfl
@[simp] theorem un84 : Tryz.prog.underlying 84 = some (.slice 5) := by kernel_rfl
@[simp] theorem un99 : Tryz.prog.underlying 99 = some (.slice 157) := by kernel_rfl
@[simp] theorem un117 : Tryz.prog.underlying 117 = some (.slice 116) := by kernel_rfl
@[simp] theorem un165 : Tryz.prog.underlying 165 = some (.slice 2) := by kernel_rfl
@[simp] theorem un169 : Tryz.prog.underlying 169 = some (.slice 179) := by kernel_rfl
@[simp] theorem un198 : Tryz.prog.underlying 198 = some (.slice 201) := by kernel_rfl
@[simp] theorem zero2 : zeroOf Tryz.prog 2 = some [.int .i64 0] := by kernel_rfl
@[simp] theorem zero3 : zeroOf Tryz.prog 3 = some [.int .i64 0] := by kernel_rfl
@[simp] theorem zero26 : zeroOf Tryz.prog 26 = some [.slice none 0 0] := by kernel_rfl
@[simp] theorem zero30 : zeroOf Tryz.prog 30 = some [.int .i64 0, .int .i64 0] := by kernel_rfl
@[simp] theorem zero32 : zeroOf Tryz.prog 32 = some [.slice none 0 0, .int .u64 0, .slice none 0 0, .int .i64 0, .int .i64 0] := by kernel_rfl
@[simp] theorem zero39 : zeroOf Tryz.prog 39 = some [.slice none 0 0, .int .i64 0] := by kernel_rfl
@[simp] theorem zero41 : zeroOf Tryz.prog 41 = some [.int .i64 0, .int .i64 0] := by kernel_rfl
@[simp] theorem zero43 : zeroOf Tryz.prog 43 = some [.slice none 0 0, .int .i64 0, .int .i64 0, .int .i64 0, .int .i64 0] := by kernel_rfl
@[simp] theorem zero47 : zeroOf Tryz.prog 47 = some [.int .i64 0, .slice none 0 0, .int .i64 0, .int .i64 0, .slice none 0 0] := by kernel_rfl
@[simp] theorem zero59 : zeroOf Tryz.prog 59 = some [.int .i64 0, .slice none 0 0, .int .i64 0, .int .i64 0, .slice none 0 0] := by kernel_rfl
@[simp] theorem zero66 : zeroOf Tryz.prog 66 = some [.int .u32 0, .int .i64 0] := by kernel_rfl
@[simp] theorem zero68 : zeroOf Tryz.prog 68 = some [.pointer none, .slice none 0 0, .int .u32 0, .int .i64 0, .int .i64 0, .int .i64 0] := by kernel_rfl
@[simp] theorem zero72 : zeroOf Tryz.prog 72 = some [.int .i64 0, .slice none 0 0] := by kernel_rfl
@[simp] theorem zero86 : zeroOf Tryz.prog 86 = some [.slice none 0 0] := by kernel_rfl
@[simp] theorem zero102 : zeroOf Tryz.prog 102 = some [.int .i64 0, .slice none 0 0] := by kernel_rfl
@[simp] theorem zero111 : zeroOf Tryz.prog 111 = some [.pointer none, .int .i64 0, .int .i64 0, .int .i64 0, .int .i64 0, .int .i64 0, .int .i64 0, .int .i64 0, .pointer none, .int .i64 0, .int .i64 0] := by kernel_rfl
@[simp] theorem zero116 : zeroOf Tryz.prog 116 = some [.int .u8 0, .int .i64 0] := by kernel_rfl
@[simp] theorem zero119 : zeroOf Tryz.prog 119 = some [.int .i64 0, .int .i64 0, .slice none 0 0] := by kernel_rfl
@[simp] theorem zero122 : zeroOf Tryz.prog 122 = some [.int .i64 0, .int .i64 0] := by kernel_rfl
@[simp] theorem zero129 : zeroOf Tryz.prog 129 = some [.int .i64 0, .int .i64 0, .int .i64 0, .int .i64 0, .int .i64 0, .int .i64 0, .int .i64 0, .int .i64 0, .int .i64 0, .int .i64 0, .int .i64 0, .int .i64 0, .int .i64 0, .int .i64 0, .int .i64 0, .int .i64 0, .int .i64 0, .int .i64 0, .int .i64 0, .int .i64 0, .int .i64 0, .int .i64 0, .int .i64 0, .int .i64 0, .int .i64 0, .int .i64 0, .int .i64 0, .int .i64 0, .int .i64 0, .int .i64 0, .int .i64 0, .int .i64 0, .int .i64 0, .int .i64 0, .int .i64 0, .int .i64 0, .int .i64 0, .int .i64 0, .int .i64 0, .int .i64 0, .int .i64 0, .int .i64 0, .int .i64 0, .int .i64 0, .int .i64 0, .int .i64 0, .int .i64 0, .int .i64 0, .int .i64 0, .int .i64 0, .int .i64 0, .int .i64 0, .int .i64 0, .int .i64 0, .int .i64 0, .int .i64 0, .int .i64 0, .int .i64 0, .int .i64 0, .int .i64 0, .int .i64 0, .int .i64 0, .int .i64 0, .int .i64 0] := by kernel_rfl
@[simp] theorem zero133 : zeroOf Tryz.prog 133 = some [.pointer none] := by kernel_rfl
@[simp] theorem zero137 : zeroOf Tryz.prog 137 = some [.pointer none, .pointer none, .slice none 0 0, .nilIface] := by kernel_rfl
@[simp] theorem zero140 : zeroOf Tryz.prog 140 = some [.int .i64 0, .int .i64 0, .slice none 0 0] := by kernel_rfl
@[simp] theorem zero150 : zeroOf Tryz.prog 150 = some [.int .i64 0, .int .i64 0, .int .i64 0, .int .i64 0] := by kernel_rfl
@[simp] theorem zero156 : zeroOf Tryz.prog 156 = some [.int .i64 0, .int .i64 0, .slice none 0 0] := by kernel_rfl
@[simp] theorem zero157 : zeroOf Tryz.prog 157 = some [.int .i64 0, .int .i64 0, .int .i64 0, .int .i64 0] := by kernel_rfl
@[simp] theorem zero171 : zeroOf Tryz.prog 171 = some [.slice none 0 0, .int .i64 0] := by kernel_rfl
@[simp] theorem zero173 : zeroOf Tryz.prog 173 = some [.int .u64 0] := by kernel_rfl
@[simp] theorem zero177 : zeroOf Tryz.prog 177 = some [.int .i64 0, .int .i64 0, .int .i64 0, .int .i64 0, .int .i64 0] := by kernel_rfl
@[simp] theorem zero179 : zeroOf Tryz.prog 179 = some [.int .i64 0, .int .i64 0, .int .i64 0, .int .i64 0, .int .i64 0, .int .i64 0] := by kernel_rfl
@[simp] theorem zero184 : zeroOf Tryz.prog 184 = some [.int .i64 0, .int .i64 0, .int .i64 0] := by kernel_rfl
@[simp] theorem zero200 : zeroOf Tryz.prog 200 = some [.pointer none, .slice none 0 0, .int .i64 0, .int .i64 0] := by kernel_rfl
@[simp] theorem zero205 : zeroOf Tryz.prog 205 = some [.int .u8 0, .int .u8 0, .int .u8 0, .int .u8 0, .int .u8 0, .int .u8 0, .int .u8 0, .int .u8 0, .int .u8 0, .int .u8 0, .int .u8 0, .int .u8 0, .int .u8 0, .int .u8 0, .int .u8 0, .int .u8 0, .int .u8 0, .int .u8 0, .int .u8 0, .int .u8 0, .int .u8 0, .int .u8 0, .int .u8 0, .int .u8 0, .int .u8 0, .int .u8 0, .int .u8 0, .int .u8 0, .int .u8 0, .int .u8 0, .int .u8 0, .int .u8 0] := by kernel_rfl
@[simp] theorem zero211 : zeroOf Tryz.prog 211 = some [.slice none 0 0] := by kernel_rfl
@[simp] theorem zero213 : zeroOf Tryz.prog 213 = some [.pointer none, .int .i64 0, .int .i64 0, .slice none 0 0] := by kernel_rfl
@[simp] theorem zero223 : zeroOf Tryz.prog 223 = some [.int .i64 0, .int .i64 0, .int .i64 0, .int .i64 0, .int .i64 0, .int .i64 0, .int .i64 0] := by kernel_rfl
end Go.Proofs.YtgkhedmjkahclaaGreatDoor.TL
