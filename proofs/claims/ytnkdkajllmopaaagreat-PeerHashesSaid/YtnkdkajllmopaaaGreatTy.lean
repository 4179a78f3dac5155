/- Facts on the program's types. -/
import Derived.Test.YtnkdkajllmopaaaGreatTD
import Derived.Test.YtnkdkajllmopaaaGreatProg
import Derived.KernelRfl
namespace Go.Proofs.YtnkdkajllmopaaaGreat.TL
open Go
@[simp] theorem ag2 : isAg Tryz.prog 2 = false := by kernel_rfl
@[simp] theorem ag3 : isAg Tryz.prog 3 = false := by kernel_rfl
@[simp] theorem ag4 : isAg Tryz.prog 4 = false := by kernel_rfl
@[simp] theorem ag9 : isAg Tryz.prog 9 = false := by kernel_rfl
@[simp] theorem ag24 : isAg Tryz.prog 24 = false := by kernel_rfl
@[simp] theorem ag26 : isAg Tryz.prog 26 = true := by kernel_rfl
@[simp] theorem ag27 : isAg Tryz.prog 27 = false := by kernel_rfl
@[simp] theorem ag28 : isAg Tryz.prog 28 = false := by kernel_rfl
@[simp] theorem ag30 : isAg Tryz.prog 30 = true := by kernel_rfl
@[simp] theorem ag32 : isAg Tryz.prog 32 = true := by kernel_rfl
@[simp] theorem ag34 : isAg Tryz.prog 34 = false := by kernel_rfl
@[simp] theorem ag35 : isAg Tryz.prog 35 = false := by kernel_rfl
@[simp] theorem ag38 : isAg Tryz.prog 38 = false := by kernel_rfl
@[simp] theorem ag41 : isAg Tryz.prog 41 = false := by kernel_rfl
@[simp] theorem ag42 : isAg Tryz.prog 42 = false := by kernel_rfl
@[simp] theorem ag44 : isAg Tryz.prog 44 = true := by kernel_rfl
@[simp] theorem ag46 : isAg Tryz.prog 46 = false := by kernel_rfl
@[simp] theorem ag48 : isAg Tryz.prog 48 = true := by kernel_rfl
@[simp] theorem ag55 : isAg Tryz.prog 55 = true := by kernel_rfl
@[simp] theorem ag57 : isAg Tryz.prog 57 = false := by kernel_rfl
@[simp] theorem ag58 : isAg Tryz.prog 58 = false := by kernel_rfl
@[simp] theorem ag60 : isAg Tryz.prog 60 = true := by kernel_rfl
@[simp] theorem ag64 : isAg Tryz.prog 64 = false := by kernel_rfl
@[simp] theorem ag66 : isAg Tryz.prog 66 = true := by kernel_rfl
@[simp] theorem ag74 : isAg Tryz.prog 74 = false := by kernel_rfl
@[simp] theorem ag75 : isAg Tryz.prog 75 = false := by kernel_rfl
@[simp] theorem ag79 : isAg Tryz.prog 79 = true := by kernel_rfl
@[simp] theorem ag81 : isAg Tryz.prog 81 = true := by kernel_rfl
@[simp] theorem ag84 : isAg Tryz.prog 84 = false := by kernel_rfl
@[simp] theorem ag87 : isAg Tryz.prog 87 = true := by kernel_rfl
@[simp] theorem ag88 : isAg Tryz.prog 88 = false := by kernel_rfl
@[simp] theorem ag91 : isAg Tryz.prog 91 = true := by kernel_rfl
@[simp] theorem ag93 : isAg Tryz.prog 93 = true := by kernel_rfl
@[simp] theorem ag95 : isAg Tryz.prog 95 = true := by kernel_rfl
@[simp] theorem ag104 : isAg Tryz.prog 104 = false := by kernel_rfl
@[simp] theorem ag114 : isAg Tryz.prog 114 = true := by kernel_rfl
@[simp] theorem ag121 : isAg Tryz.prog 121 = true := by kernel_rfl
@[simp] theorem ag124 : isAg Tryz.prog 124 = false := by kernel_rfl
@[simp] theorem ag128 : isAg Tryz.prog 128 = false := by kernel_rfl
@[simp] theorem ag132 : isAg Tryz.prog 132 = false := by kernel_rfl
@[simp] theorem ag142 : isAg Tryz.prog 142 = true := by kernel_rfl
@[simp] theorem ag145 : isAg Tryz.prog 145 = false := by kernel_rfl
@[simp] theorem ag147 : isAg Tryz.prog 147 = true := by kernel_rfl
@[simp] theorem ag148 : isAg Tryz.prog 148 = false := by kernel_rfl
@[simp] theorem ag150 : isAg Tryz.prog 150 = true := by kernel_rfl
@[simp] theorem ag152 : isAg Tryz.prog 152 = false := by kernel_rfl
@[simp] theorem ag156 : isAg Tryz.prog 156 = true := by kernel_rfl
@[simp] theorem ag160 : isAg Tryz.prog 160 = false := by kernel_rfl
@[simp] theorem ag164 : isAg Tryz.prog 164 = false := by kernel_rfl
@[simp] theorem ag169 : isAg Tryz.prog 169 = false := by kernel_rfl
@[simp] theorem ag178 : isAg Tryz.prog 178 = true := by kernel_rfl
@[simp] theorem ag191 : isAg Tryz.prog 191 = false := by kernel_rfl
@[simp] theorem ag194 : isAg Tryz.prog 194 = false := by kernel_rfl
@[simp] theorem ag203 : isAg Tryz.prog 203 = true := by kernel_rfl
@[simp] theorem ag206 : isAg Tryz.prog 206 = false := by kernel_rfl
@[simp] theorem ag208 : isAg Tryz.prog 208 = true := by kernel_rfl
@[simp] theorem ag227 : isAg Tryz.prog 227 = false := by kernel_rfl
@[simp] theorem ag230 : isAg Tryz.prog 230 = false := by kernel_rfl
@[simp] theorem ag240 : isAg Tryz.prog 240 = false := by kernel_rfl
@[simp] theorem ag254 : isAg Tryz.prog 254 = true := by kernel_rfl
@[simp] theorem ar9 : arrOf Tryz.prog 9 = none := by kernel_rfl
@[simp] theorem ar22 : arrOf Tryz.prog 22 = none := by kernel_rfl
@[simp] theorem ar24 : arrOf Tryz.prog 24 = none := by kernel_rfl
@[simp] theorem ar28 : arrOf Tryz.prog 28 = none := by kernel_rfl
@[simp] theorem ar41 : arrOf Tryz.prog 41 = none := by kernel_rfl
@[simp] theorem ar42 : arrOf Tryz.prog 42 = none := by kernel_rfl
@[simp] theorem ar46 : arrOf Tryz.prog 46 = none := by kernel_rfl
@[simp] theorem ar51 : arrOf Tryz.prog 51 = none := by kernel_rfl
@[simp] theorem ar74 : arrOf Tryz.prog 74 = none := by kernel_rfl
@[simp] theorem ar75 : arrOf Tryz.prog 75 = none := by kernel_rfl
@[simp] theorem ar84 : arrOf Tryz.prog 84 = none := by kernel_rfl
@[simp] theorem ar85 : arrOf Tryz.prog 85 = none := by kernel_rfl
@[simp] theorem ar88 : arrOf Tryz.prog 88 = none := by kernel_rfl
@[simp] theorem ar125 : arrOf Tryz.prog 125 = some (6, 1) := by kernel_rfl
@[simp] theorem ar148 : arrOf Tryz.prog 148 = none := by kernel_rfl
@[simp] theorem ar161 : arrOf Tryz.prog 161 = some (64, 1) := by kernel_rfl
@[simp] theorem ar191 : arrOf Tryz.prog 191 = none := by kernel_rfl
@[simp] theorem ar194 : arrOf Tryz.prog 194 = none := by kernel_rfl
@[simp] theorem ar201 : arrOf Tryz.prog 201 = some (5, 1) := by kernel_rfl
@[simp] theorem ar220 : arrOf Tryz.prog 220 = none := by kernel_rfl
@[simp] theorem ar227 : arrOf Tryz.prog 227 = none := by kernel_rfl
@[simp] theorem ar254 : arrOf Tryz.prog 254 = some (7, 1) := by kernel_rfl
@[simp] theorem as55 : assB Tryz.prog 55 = true := by kernel_rfl
@[simp] theorem as66 : assB Tryz.prog 66 = true := by kernel_rfl
@[simp] theorem as81 : assB Tryz.prog 81 = true := by kernel_rfl
@[simp] theorem as87 : assB Tryz.prog 87 = true := by kernel_rfl
@[simp] theorem as93 : assB Tryz.prog 93 = true := by kernel_rfl
@[simp] theorem as95 : assB Tryz.prog 95 = true := by kernel_rfl
@[simp] theorem as121 : assB Tryz.prog 121 = true := by kernel_rfl
@[simp] theorem by2 : byOf Tryz.prog 2 = 8 := by kernel_rfl
@[simp] theorem by3 : byOf Tryz.prog 3 = 8 := by kernel_rfl
@[simp] theorem by5 : byOf Tryz.prog 5 = 1 := by kernel_rfl
@[simp] theorem by9 : byOf Tryz.prog 9 = 16 := by kernel_rfl
@[simp] theorem by44 : byOf Tryz.prog 44 = 72 := by kernel_rfl
@[simp] theorem by64 : byOf Tryz.prog 64 = 16 := by kernel_rfl
@[simp] theorem by79 : byOf Tryz.prog 79 = 32 := by kernel_rfl
@[simp] theorem by91 : byOf Tryz.prog 91 = 48 := by kernel_rfl
@[simp] theorem by114 : byOf Tryz.prog 114 = 40 := by kernel_rfl
@[simp] theorem by147 : byOf Tryz.prog 147 = 16 := by kernel_rfl
@[simp] theorem by178 : byOf Tryz.prog 178 = 32 := by kernel_rfl
@[simp] theorem by203 : byOf Tryz.prog 203 = 48 := by kernel_rfl
@[simp] theorem by230 : byOf Tryz.prog 230 = 8 := by kernel_rfl
@[simp] theorem cc55 : Tryz.prog.concrete 55 = true := by kernel_rfl
@[simp] theorem cc66 : Tryz.prog.concrete 66 = true := by kernel_rfl
@[simp] theorem cc81 : Tryz.prog.concrete 81 = true := by kernel_rfl
@[simp] theorem cc87 : Tryz.prog.concrete 87 = true := by kernel_rfl
@[simp] theorem cc93 : Tryz.prog.concrete 93 = true := by kernel_rfl
@[simp] theorem cc95 : Tryz.prog.concrete 95 = true := by kernel_rfl
@[simp] theorem cc101 : Tryz.prog.concrete 101 = true := by kernel_rfl
@[simp] theorem cc123 : Tryz.prog.concrete 123 = true := by kernel_rfl
@[simp] theorem cc167 : Tryz.prog.concrete 167 = true := by kernel_rfl
@[simp] theorem el9 : elemOf Tryz.prog 9 = none := by kernel_rfl
@[simp] theorem el22 : elemOf Tryz.prog 22 = some 6 := by kernel_rfl
@[simp] theorem el24 : elemOf Tryz.prog 24 = some 3 := by kernel_rfl
@[simp] theorem el28 : elemOf Tryz.prog 28 = some 1 := by kernel_rfl
@[simp] theorem el41 : elemOf Tryz.prog 41 = some 3 := by kernel_rfl
@[simp] theorem el42 : elemOf Tryz.prog 42 = some 2 := by kernel_rfl
@[simp] theorem el46 : elemOf Tryz.prog 46 = some 1 := by kernel_rfl
@[simp] theorem el51 : elemOf Tryz.prog 51 = some 1 := by kernel_rfl
@[simp] theorem el74 : elemOf Tryz.prog 74 = some 4 := by kernel_rfl
@[simp] theorem el75 : elemOf Tryz.prog 75 = some 4 := by kernel_rfl
@[simp] theorem el84 : elemOf Tryz.prog 84 = some 5 := by kernel_rfl
@[simp] theorem el85 : elemOf Tryz.prog 85 = some 1 := by kernel_rfl
@[simp] theorem el88 : elemOf Tryz.prog 88 = some 5 := by kernel_rfl
@[simp] theorem el125 : elemOf Tryz.prog 125 = none := by kernel_rfl
@[simp] theorem el132 : elemOf Tryz.prog 132 = some 1 := by kernel_rfl
@[simp] theorem el148 : elemOf Tryz.prog 148 = some 2 := by kernel_rfl
@[simp] theorem el161 : elemOf Tryz.prog 161 = none := by kernel_rfl
@[simp] theorem el191 : elemOf Tryz.prog 191 = some 1 := by kernel_rfl
@[simp] theorem el194 : elemOf Tryz.prog 194 = some 6 := by kernel_rfl
@[simp] theorem el201 : elemOf Tryz.prog 201 = none := by kernel_rfl
@[simp] theorem el220 : elemOf Tryz.prog 220 = some 1 := by kernel_rfl
@[simp] theorem el227 : elemOf Tryz.prog 227 = some 1 := by kernel_rfl
@[simp] theorem el254 : elemOf Tryz.prog 254 = none := by kernel_rfl
@[simp] theorem sc2 : scal Tryz.prog 2 = some 0 := by kernel_rfl
@[simp] theorem sc3 : scal Tryz.prog 3 = some 0 := by kernel_rfl
@[simp] theorem sc4 : scal Tryz.prog 4 = some 2 := by kernel_rfl
@[simp] theorem sc5 : scal Tryz.prog 5 = some 0 := by kernel_rfl
@[simp] theorem sc9 : scal Tryz.prog 9 = some 1 := by kernel_rfl
@[simp] theorem sc27 : scal Tryz.prog 27 = some 0 := by kernel_rfl
@[simp] theorem eq30 : eqOf Tryz.prog 30 = some [(0, 0), (1, 0)] := by kernel_rfl
@[simp] theorem pt34 : isPtr Tryz.prog 34 = true := by kernel_rfl
@[simp] theorem sc35 : scal Tryz.prog 35 = some 0 := by kernel_rfl
@[simp] theorem pt38 : isPtr Tryz.prog 38 = true := by kernel_rfl
@[simp] theorem sc58 : scal Tryz.prog 58 = some 0 := by kernel_rfl
@[simp] theorem is74 : isSlice Tryz.prog 74 = true := by kernel_rfl
@[simp] theorem eq79 : eqOf Tryz.prog 79 = some [(0, 0), (1, 0), (2, 0), (3, 0)] := by kernel_rfl
@[simp] theorem eq142 : eqOf Tryz.prog 142 = some [(0, 0), (1, 0), (2, 0)] := by kernel_rfl
@[simp] theorem sc145 : scal Tryz.prog 145 = some 0 := by kernel_rfl
@[simp] theorem is191 : isSlice Tryz.prog 191 = true := by kernel_rfl
@[simp] theorem is194 : isSlice Tryz.prog 194 = true := by kernel_rfl
@[simp] theorem sc206 : scal Tryz.prog 206 = some 0 := by kernel_rfl
@[simp] theorem fd26_0 : fieldOf Tryz.prog 26 0 = some (0, 1, false) := by kernel_rfl
@[simp] theorem fd30_0 : fieldOf Tryz.prog 30 0 = some (0, 1, false) := by kernel_rfl
@[simp] theorem fd30_1 : fieldOf Tryz.prog 30 1 = some (1, 1, false) := by kernel_rfl
@[simp] theorem fd32_0 : fieldOf Tryz.prog 32 0 = some (0, 1, true) := by kernel_rfl
@[simp] theorem fd32_1 : fieldOf Tryz.prog 32 1 = some (1, 1, false) := by kernel_rfl
@[simp] theorem fd32_2 : fieldOf Tryz.prog 32 2 = some (2, 1, false) := by kernel_rfl
@[simp] theorem fd32_3 : fieldOf Tryz.prog 32 3 = some (3, 2, true) := by kernel_rfl
@[simp] theorem fd44_0 : fieldOf Tryz.prog 44 0 = some (0, 1, false) := by kernel_rfl
@[simp] theorem fd44_1 : fieldOf Tryz.prog 44 1 = some (1, 1, false) := by kernel_rfl
@[simp] theorem fd44_2 : fieldOf Tryz.prog 44 2 = some (2, 2, true) := by kernel_rfl
@[simp] theorem fd44_3 : fieldOf Tryz.prog 44 3 = some (4, 1, false) := by kernel_rfl
@[simp] theorem fd48_0 : fieldOf Tryz.prog 48 0 = some (0, 1, false) := by kernel_rfl
@[simp] theorem fd48_1 : fieldOf Tryz.prog 48 1 = some (1, 1, false) := by kernel_rfl
@[simp] theorem fd48_2 : fieldOf Tryz.prog 48 2 = some (2, 1, false) := by kernel_rfl
@[simp] theorem fd48_3 : fieldOf Tryz.prog 48 3 = some (3, 1, false) := by kernel_rfl
@[simp] theorem fd48_4 : fieldOf Tryz.prog 48 4 = some (4, 1, false) := by kernel_rfl
@[simp] theorem fd48_5 : fieldOf Tryz.prog 48 5 = some (5, 1, false) := by kernel_rfl
@[simp] theorem fd55_0 : fieldOf Tryz.prog 55 0 = some (0, 5, true) := by kernel_rfl
@[simp] theorem fd60_0 : fieldOf Tryz.prog 60 0 = some (0, 1, false) := by kernel_rfl
@[simp] theorem fd60_1 : fieldOf Tryz.prog 60 1 = some (1, 1, false) := by kernel_rfl
@[simp] theorem fd62_0 : fieldOf Tryz.prog 62 0 = some (0, 1, false) := by kernel_rfl
@[simp] theorem fd62_2 : fieldOf Tryz.prog 62 2 = some (2, 2, true) := by kernel_rfl
@[simp] theorem fd62_3 : fieldOf Tryz.prog 62 3 = some (4, 2, true) := by kernel_rfl
@[simp] theorem fd66_0 : fieldOf Tryz.prog 66 0 = some (0, 1, false) := by kernel_rfl
@[simp] theorem fd66_1 : fieldOf Tryz.prog 66 1 = some (1, 1, false) := by kernel_rfl
@[simp] theorem fd79_0 : fieldOf Tryz.prog 79 0 = some (0, 1, false) := by kernel_rfl
@[simp] theorem fd79_1 : fieldOf Tryz.prog 79 1 = some (1, 1, false) := by kernel_rfl
@[simp] theorem fd79_2 : fieldOf Tryz.prog 79 2 = some (2, 1, false) := by kernel_rfl
@[simp] theorem fd79_3 : fieldOf Tryz.prog 79 3 = some (3, 1, false) := by kernel_rfl
@[simp] theorem fd81_0 : fieldOf Tryz.prog 81 0 = some (0, 1, false) := by kernel_rfl
@[simp] theorem fd81_1 : fieldOf Tryz.prog 81 1 = some (1, 1, false) := by kernel_rfl
@[simp] theorem fd87_0 : fieldOf Tryz.prog 87 0 = some (0, 1, false) := by kernel_rfl
@[simp] theorem fd91_0 : fieldOf Tryz.prog 91 0 = some (0, 1, false) := by kernel_rfl
@[simp] theorem fd91_1 : fieldOf Tryz.prog 91 1 = some (1, 1, false) := by kernel_rfl
@[simp] theorem fd91_2 : fieldOf Tryz.prog 91 2 = some (2, 1, false) := by kernel_rfl
@[simp] theorem fd91_3 : fieldOf Tryz.prog 91 3 = some (3, 1, false) := by kernel_rfl
@[simp] theorem fd91_4 : fieldOf Tryz.prog 91 4 = some (4, 1, false) := by kernel_rfl
@[simp] theorem fd93_0 : fieldOf Tryz.prog 93 0 = some (0, 5, true) := by kernel_rfl
@[simp] theorem fd95_0 : fieldOf Tryz.prog 95 0 = some (0, 1, false) := by kernel_rfl
@[simp] theorem fd107_0 : fieldOf Tryz.prog 107 0 = some (0, 1, false) := by kernel_rfl
@[simp] theorem fd107_1 : fieldOf Tryz.prog 107 1 = some (1, 1, true) := by kernel_rfl
@[simp] theorem fd107_2 : fieldOf Tryz.prog 107 2 = some (2, 1, false) := by kernel_rfl
@[simp] theorem fd107_3 : fieldOf Tryz.prog 107 3 = some (3, 1, false) := by kernel_rfl
@[simp] theorem fd107_4 : fieldOf Tryz.prog 107 4 = some (4, 1, false) := by kernel_rfl
@[simp] theorem fd107_5 : fieldOf Tryz.prog 107 5 = some (5, 1, false) := by kernel_rfl
@[simp] theorem fd107_6 : fieldOf Tryz.prog 107 6 = some (6, 1, false) := by kernel_rfl
@[simp] theorem fd107_7 : fieldOf Tryz.prog 107 7 = some (7, 1, false) := by kernel_rfl
@[simp] theorem fd114_0 : fieldOf Tryz.prog 114 0 = some (0, 1, false) := by kernel_rfl
@[simp] theorem fd114_1 : fieldOf Tryz.prog 114 1 = some (1, 1, false) := by kernel_rfl
@[simp] theorem fd114_2 : fieldOf Tryz.prog 114 2 = some (2, 1, false) := by kernel_rfl
@[simp] theorem fd121_0 : fieldOf Tryz.prog 121 0 = some (0, 1, false) := by kernel_rfl
@[simp] theorem fd127_0 : fieldOf Tryz.prog 127 0 = some (0, 1, false) := by kernel_rfl
@[simp] theorem fd127_1 : fieldOf Tryz.prog 127 1 = some (1, 6, true) := by kernel_rfl
@[simp] theorem fd130_0 : fieldOf Tryz.prog 130 0 = some (0, 1, false) := by kernel_rfl
@[simp] theorem fd130_1 : fieldOf Tryz.prog 130 1 = some (1, 7, true) := by kernel_rfl
@[simp] theorem fd130_2 : fieldOf Tryz.prog 130 2 = some (8, 1, false) := by kernel_rfl
@[simp] theorem fd130_3 : fieldOf Tryz.prog 130 3 = some (9, 1, false) := by kernel_rfl
@[simp] theorem fd130_4 : fieldOf Tryz.prog 130 4 = some (10, 1, false) := by kernel_rfl
@[simp] theorem fd134_0 : fieldOf Tryz.prog 134 0 = some (0, 1, false) := by kernel_rfl
@[simp] theorem fd142_0 : fieldOf Tryz.prog 142 0 = some (0, 1, false) := by kernel_rfl
@[simp] theorem fd142_1 : fieldOf Tryz.prog 142 1 = some (1, 1, false) := by kernel_rfl
@[simp] theorem fd142_2 : fieldOf Tryz.prog 142 2 = some (2, 1, false) := by kernel_rfl
@[simp] theorem fd147_0 : fieldOf Tryz.prog 147 0 = some (0, 1, false) := by kernel_rfl
@[simp] theorem fd147_1 : fieldOf Tryz.prog 147 1 = some (1, 1, false) := by kernel_rfl
@[simp] theorem fd150_0 : fieldOf Tryz.prog 150 0 = some (0, 1, false) := by kernel_rfl
@[simp] theorem fd150_1 : fieldOf Tryz.prog 150 1 = some (1, 1, false) := by kernel_rfl
@[simp] theorem fd150_2 : fieldOf Tryz.prog 150 2 = some (2, 1, false) := by kernel_rfl
@[simp] theorem fd154_0 : fieldOf Tryz.prog 154 0 = some (0, 3, true) := by kernel_rfl
@[simp] theorem fd154_1 : fieldOf Tryz.prog 154 1 = some (3, 1, false) := by kernel_rfl
@[simp] theorem fd154_2 : fieldOf Tryz.prog 154 2 = some (4, 1, false) := by kernel_rfl
@[simp] theorem fd163_0 : fieldOf Tryz.prog 163 0 = some (0, 64, true) := by kernel_rfl
@[simp] theorem fd167_0 : fieldOf Tryz.prog 167 0 = some (0, 1, false) := by kernel_rfl
@[simp] theorem fd171_0 : fieldOf Tryz.prog 171 0 = some (0, 1, false) := by kernel_rfl
@[simp] theorem fd171_1 : fieldOf Tryz.prog 171 1 = some (1, 1, false) := by kernel_rfl
@[simp] theorem fd171_2 : fieldOf Tryz.prog 171 2 = some (2, 1, true) := by kernel_rfl
@[simp] theorem fd171_3 : fieldOf Tryz.prog 171 3 = some (3, 1, false) := by kernel_rfl
@[simp] theorem fd178_0 : fieldOf Tryz.prog 178 0 = some (0, 1, false) := by kernel_rfl
@[simp] theorem fd178_1 : fieldOf Tryz.prog 178 1 = some (1, 1, false) := by kernel_rfl
@[simp] theorem fd196_0 : fieldOf Tryz.prog 196 0 = some (0, 1, false) := by kernel_rfl
@[simp] theorem fd196_1 : fieldOf Tryz.prog 196 1 = some (1, 1, false) := by kernel_rfl
@[simp] theorem fd198_0 : fieldOf Tryz.prog 198 0 = some (0, 1, false) := by kernel_rfl
@[simp] theorem fd203_0 : fieldOf Tryz.prog 203 0 = some (0, 1, false) := by kernel_rfl
@[simp] theorem fd203_1 : fieldOf Tryz.prog 203 1 = some (1, 5, true) := by kernel_rfl
@[simp] theorem fd208_0 : fieldOf Tryz.prog 208 0 = some (0, 1, false) := by kernel_rfl
@[simp] theorem fd208_2 : fieldOf Tryz.prog 208 2 = some (2, 1, false) := by kernel_rfl
@[simp] theorem fd229_0 : fieldOf Tryz.prog 229 0 = some (0, 1, false) := by kernel_rfl
@[simp] theorem fd229_1 : fieldOf Tryz.prog 229 1 = some (1, 1, false) := by kernel_rfl
@[simp] theorem fd229_2 : fieldOf Tryz.prog 229 2 = some (2, 1, false) := by kernel_rfl
@[simp] theorem fd229_3 : fieldOf Tryz.prog 229 3 = some (3, 1, false) := by kernel_rfl
@[simp] theorem fd233_0 : fieldOf Tryz.prog 233 0 = some (0, 1, false) := by kernel_rfl
@[simp] theorem fd233_1 : fieldOf Tryz.prog 233 1 = some (1, 1, false) := by kernel_rfl
@[simp] theorem fd242_0 : fieldOf Tryz.prog 242 0 = some (0, 1, false) := by kernel_rfl
@[simp] theorem fd244_0 : fieldOf Tryz.prog 244 0 = some (0, 1, false) := by kernel_rfl
@[simp] theorem fd244_1 : fieldOf Tryz.prog 244 1 = some (1, 1, false) := by kernel_rfl
@[simp] theorem fd244_2 : fieldOf Tryz.prog 244 2 = some (2, 1, false) := by kernel_rfl
@[simp] theorem fd244_3 : fieldOf Tryz.prog 244 3 = some (3, 1, false) := by kernel_rfl
@[simp] theorem hu2 : hasU Tryz.prog 2 = true := by kernel_rfl
@[simp] theorem hu3 : hasU Tryz.prog 3 = true := by kernel_rfl
@[simp] theorem hu4 : hasU Tryz.prog 4 = true := by kernel_rfl
@[simp] theorem hu5 : hasU Tryz.prog 5 = true := by kernel_rfl
@[simp] theorem hu9 : hasU Tryz.prog 9 = true := by kernel_rfl
@[simp] theorem hu24 : hasU Tryz.prog 24 = true := by kernel_rfl
@[simp] theorem hu26 : hasU Tryz.prog 26 = true := by kernel_rfl
@[simp] theorem hu27 : hasU Tryz.prog 27 = true := by kernel_rfl
@[simp] theorem hu28 : hasU Tryz.prog 28 = true := by kernel_rfl
@[simp] theorem hu30 : hasU Tryz.prog 30 = true := by kernel_rfl
@[simp] theorem hu32 : hasU Tryz.prog 32 = true := by kernel_rfl
@[simp] theorem hu34 : hasU Tryz.prog 34 = true := by kernel_rfl
@[simp] theorem hu35 : hasU Tryz.prog 35 = true := by kernel_rfl
@[simp] theorem hu38 : hasU Tryz.prog 38 = true := by kernel_rfl
@[simp] theorem hu41 : hasU Tryz.prog 41 = true := by kernel_rfl
@[simp] theorem hu42 : hasU Tryz.prog 42 = true := by kernel_rfl
@[simp] theorem hu44 : hasU Tryz.prog 44 = true := by kernel_rfl
@[simp] theorem hu46 : hasU Tryz.prog 46 = true := by kernel_rfl
@[simp] theorem hu48 : hasU Tryz.prog 48 = true := by kernel_rfl
@[simp] theorem hu55 : hasU Tryz.prog 55 = true := by kernel_rfl
@[simp] theorem hu57 : hasU Tryz.prog 57 = true := by kernel_rfl
@[simp] theorem hu58 : hasU Tryz.prog 58 = true := by kernel_rfl
@[simp] theorem hu60 : hasU Tryz.prog 60 = true := by kernel_rfl
@[simp] theorem hu64 : hasU Tryz.prog 64 = true := by kernel_rfl
@[simp] theorem hu66 : hasU Tryz.prog 66 = true := by kernel_rfl
@[simp] theorem hu74 : hasU Tryz.prog 74 = true := by kernel_rfl
@[simp] theorem hu75 : hasU Tryz.prog 75 = true := by kernel_rfl
@[simp] theorem hu79 : hasU Tryz.prog 79 = true := by kernel_rfl
@[simp] theorem hu81 : hasU Tryz.prog 81 = true := by kernel_rfl
@[simp] theorem hu84 : hasU Tryz.prog 84 = true := by kernel_rfl
@[simp] theorem hu87 : hasU Tryz.prog 87 = true := by kernel_rfl
@[simp] theorem hu88 : hasU Tryz.prog 88 = true := by kernel_rfl
@[simp] theorem hu91 : hasU Tryz.prog 91 = true := by kernel_rfl
@[simp] theorem hu93 : hasU Tryz.prog 93 = true := by kernel_rfl
@[simp] theorem hu95 : hasU Tryz.prog 95 = true := by kernel_rfl
@[simp] theorem hu104 : hasU Tryz.prog 104 = true := by kernel_rfl
@[simp] theorem hu114 : hasU Tryz.prog 114 = true := by kernel_rfl
@[simp] theorem hu121 : hasU Tryz.prog 121 = true := by kernel_rfl
@[simp] theorem hu124 : hasU Tryz.prog 124 = true := by kernel_rfl
@[simp] theorem hu128 : hasU Tryz.prog 128 = true := by kernel_rfl
@[simp] theorem hu132 : hasU Tryz.prog 132 = true := by kernel_rfl
@[simp] theorem hu142 : hasU Tryz.prog 142 = true := by kernel_rfl
@[simp] theorem hu145 : hasU Tryz.prog 145 = true := by kernel_rfl
@[simp] theorem hu147 : hasU Tryz.prog 147 = true := by kernel_rfl
@[simp] theorem hu148 : hasU Tryz.prog 148 = true := by kernel_rfl
@[simp] theorem hu150 : hasU Tryz.prog 150 = true := by kernel_rfl
@[simp] theorem hu152 : hasU Tryz.prog 152 = true := by kernel_rfl
@[simp] theorem hu156 : hasU Tryz.prog 156 = true := by kernel_rfl
@[simp] theorem hu160 : hasU Tryz.prog 160 = true := by kernel_rfl
@[simp] theorem hu164 : hasU Tryz.prog 164 = true := by kernel_rfl
@[simp] theorem hu169 : hasU Tryz.prog 169 = true := by kernel_rfl
@[simp] theorem hu178 : hasU Tryz.prog 178 = true := by kernel_rfl
@[simp] theorem hu191 : hasU Tryz.prog 191 = true := by kernel_rfl
@[simp] theorem hu194 : hasU Tryz.prog 194 = true := by kernel_rfl
@[simp] theorem hu199 : hasU Tryz.prog 199 = true := by kernel_rfl
@[simp] theorem hu203 : hasU Tryz.prog 203 = true := by kernel_rfl
@[simp] theorem hu206 : hasU Tryz.prog 206 = true := by kernel_rfl
@[simp] theorem hu208 : hasU Tryz.prog 208 = true := by kernel_rfl
@[simp] theorem hu227 : hasU Tryz.prog 227 = true := by kernel_rfl
@[simp] theorem hu230 : hasU Tryz.prog 230 = true := by kernel_rfl
@[simp] theorem hu240 : hasU Tryz.prog 240 = true := by kernel_rfl
@[simp] theorem hu254 : hasU Tryz.prog 254 = true := by kernel_rfl
@[simp] theorem kd2 : kdOf Tryz.prog 2 = .int .i64 := by kernel_rfl
@[simp] theorem kd3 : kdOf Tryz.prog 3 = .int .i64 := by kernel_rfl
@[simp] theorem kd5 : kdOf Tryz.prog 5 = .int .u8 := by kernel_rfl
@[simp] theorem kd9 : kdOf Tryz.prog 9 = .str := by kernel_rfl
@[simp] theorem kd22 : kdOf Tryz.prog 22 = .other := by kernel_rfl
@[simp] theorem kd24 : kdOf Tryz.prog 24 = .other := by kernel_rfl
@[simp] theorem kd27 : kdOf Tryz.prog 27 = .int .u64 := by kernel_rfl
@[simp] theorem kd28 : kdOf Tryz.prog 28 = .other := by kernel_rfl
@[simp] theorem kd41 : kdOf Tryz.prog 41 = .other := by kernel_rfl
@[simp] theorem kd42 : kdOf Tryz.prog 42 = .other := by kernel_rfl
@[simp] theorem kd46 : kdOf Tryz.prog 46 = .other := by kernel_rfl
@[simp] theorem kd51 : kdOf Tryz.prog 51 = .other := by kernel_rfl
@[simp] theorem kd58 : kdOf Tryz.prog 58 = .int .u32 := by kernel_rfl
@[simp] theorem kd74 : kdOf Tryz.prog 74 = .other := by kernel_rfl
@[simp] theorem kd75 : kdOf Tryz.prog 75 = .other := by kernel_rfl
@[simp] theorem kd84 : kdOf Tryz.prog 84 = .other := by kernel_rfl
@[simp] theorem kd85 : kdOf Tryz.prog 85 = .other := by kernel_rfl
@[simp] theorem kd88 : kdOf Tryz.prog 88 = .other := by kernel_rfl
@[simp] theorem kd125 : kdOf Tryz.prog 125 = .other := by kernel_rfl
@[simp] theorem kd132 : kdOf Tryz.prog 132 = .bytes := by kernel_rfl
@[simp] theorem kd148 : kdOf Tryz.prog 148 = .other := by kernel_rfl
@[simp] theorem kd161 : kdOf Tryz.prog 161 = .other := by kernel_rfl
@[simp] theorem kd186 : kdOf Tryz.prog 186 = .int .u64 := by kernel_rfl
@[simp] theorem kd191 : kdOf Tryz.prog 191 = .other := by kernel_rfl
@[simp] theorem kd194 : kdOf Tryz.prog 194 = .other := by kernel_rfl
@[simp] theorem kd199 : kdOf Tryz.prog 199 = .int .u64 := by kernel_rfl
@[simp] theorem kd201 : kdOf Tryz.prog 201 = .other := by kernel_rfl
@[simp] theorem kd220 : kdOf Tryz.prog 220 = .other := by kernel_rfl
@[simp] theorem kd227 : kdOf Tryz.prog 227 = .other := by kernel_rfl
@[simp] theorem me167_Do : methOf Tryz.prog 167 "Do" = some 159 := by kernel_rfl
@[simp] theorem mk152 : mapK Tryz.prog 152 = some (.i64, 9) := by kernel_rfl
@[simp] theorem plc26 : plcOf Tryz.prog 26 = some [(0, 1)] := by kernel_rfl
@[simp] theorem plc30 : plcOf Tryz.prog 30 = some [(0, 1), (1, 1)] := by kernel_rfl
@[simp] theorem plc32 : plcOf Tryz.prog 32 = some [(0, 1), (1, 1), (2, 1), (3, 2)] := by kernel_rfl
@[simp] theorem plc44 : plcOf Tryz.prog 44 = some [(0, 1), (1, 1), (2, 2), (4, 1)] := by kernel_rfl
@[simp] theorem plc48 : plcOf Tryz.prog 48 = some [(0, 1), (1, 1), (2, 1), (3, 1), (4, 1), (5, 1)] := by kernel_rfl
@[simp] theorem plc55 : plcOf Tryz.prog 55 = some [(0, 5)] := by kernel_rfl
@[simp] theorem plc60 : plcOf Tryz.prog 60 = some [(0, 1), (1, 1)] := by kernel_rfl
@[simp] theorem plc62 : plcOf Tryz.prog 62 = some [(0, 1), (1, 1), (2, 2), (4, 2)] := by kernel_rfl
@[simp] theorem plc66 : plcOf Tryz.prog 66 = some [(0, 1), (1, 1)] := by kernel_rfl
@[simp] theorem plc81 : plcOf Tryz.prog 81 = some [(0, 1), (1, 1)] := by kernel_rfl
@[simp] theorem plc87 : plcOf Tryz.prog 87 = some [(0, 1)] := by kernel_rfl
@[simp] theorem plc91 : plcOf Tryz.prog 91 = some [(0, 1), (1, 1), (2, 1), (3, 1), (4, 1)] := by kernel_rfl
@[simp] theorem plc93 : plcOf Tryz.prog 93 = some [(0, 5)] := by kernel_rfl
@[simp] theorem plc95 : plcOf Tryz.prog 95 = some [(0, 1)] := by kernel_rfl
@[simp] theorem plc101 : plcOf Tryz.prog 101 = some [] := by kernel_rfl
@[simp] theorem plc107 : plcOf Tryz.prog 107 = some [(0, 1), (1, 1), (2, 1), (3, 1), (4, 1), (5, 1), (6, 1), (7, 1)] := by kernel_rfl
@[simp] theorem plc123 : plcOf Tryz.prog 123 = some [(0, 1), (1, 1)] := by kernel_rfl
@[simp] theorem plc130 : plcOf Tryz.prog 130 = some [(0, 1), (1, 7), (8, 1), (9, 1), (10, 1)] := by kernel_rfl
@[simp] theorem plc142 : plcOf Tryz.prog 142 = some [(0, 1), (1, 1), (2, 1)] := by kernel_rfl
@[simp] theorem plc147 : plcOf Tryz.prog 147 = some [(0, 1), (1, 1)] := by kernel_rfl
@[simp] theorem plc150 : plcOf Tryz.prog 150 = some [(0, 1), (1, 1), (2, 1)] := by kernel_rfl
@[simp] theorem plc154 : plcOf Tryz.prog 154 = some [(0, 3), (3, 1), (4, 1)] := by kernel_rfl
@[simp] theorem plc156 : plcOf Tryz.prog 156 = some [(0, 1), (1, 1)] := by kernel_rfl
@[simp] theorem plc163 : plcOf Tryz.prog 163 = some [(0, 64)] := by kernel_rfl
@[simp] theorem plc167 : plcOf Tryz.prog 167 = some [(0, 1)] := by kernel_rfl
@[simp] theorem plc171 : plcOf Tryz.prog 171 = some [(0, 1), (1, 1), (2, 1), (3, 1)] := by kernel_rfl
@[simp] theorem plc178 : plcOf Tryz.prog 178 = some [(0, 1), (1, 1)] := by kernel_rfl
@[simp] theorem plc196 : plcOf Tryz.prog 196 = some [(0, 1), (1, 1)] := by kernel_rfl
@[simp] theorem plc198 : plcOf Tryz.prog 198 = some [(0, 1)] := by kernel_rfl
@[simp] theorem plc201 : plcOf Tryz.prog 201 = some [(0, 1), (1, 1), (2, 1), (3, 1), (4, 1)] := by kernel_rfl
@[simp] theorem plc203 : plcOf Tryz.prog 203 = some [(0, 1), (1, 5)] := by kernel_rfl
@[simp] theorem plc208 : plcOf Tryz.prog 208 = some [(0, 1), (1, 1), (2, 1)] := by kernel_rfl
@[simp] theorem plc229 : plcOf Tryz.prog 229 = some [(0, 1), (1, 1), (2, 1), (3, 1)] := by kernel_rfl
@[simp] theorem plc233 : plcOf Tryz.prog 233 = some [(0, 1), (1, 1)] := by kernel_rfl
@[simp] theorem plc242 : plcOf Tryz.prog 242 = some [(0, 1)] := by kernel_rfl
@[simp] theorem plc244 : plcOf Tryz.prog 244 = some [(0, 1), (1, 1), (2, 1), (3, 1)] := by kernel_rfl
@[simp] theorem plc254 : plcOf Tryz.prog 254 = some [(0, 1), (1, 1), (2, 1), (3, 1), (4, 1), (5, 1), (6, 1)] := by kernel_rfl
@[simp] theorem sz2 : szOf Tryz.prog 2 = 1 := by kernel_rfl
@[simp] theorem sz3 : szOf Tryz.prog 3 = 1 := by kernel_rfl
@[simp] theorem sz4 : szOf Tryz.prog 4 = 1 := by kernel_rfl
@[simp] theorem sz9 : szOf Tryz.prog 9 = 1 := by kernel_rfl
@[simp] theorem sz24 : szOf Tryz.prog 24 = 1 := by kernel_rfl
@[simp] theorem sz26 : szOf Tryz.prog 26 = 1 := by kernel_rfl
@[simp] theorem sz27 : szOf Tryz.prog 27 = 1 := by kernel_rfl
@[simp] theorem sz28 : szOf Tryz.prog 28 = 1 := by kernel_rfl
@[simp] theorem sz30 : szOf Tryz.prog 30 = 2 := by kernel_rfl
@[simp] theorem sz32 : szOf Tryz.prog 32 = 5 := by kernel_rfl
@[simp] theorem sz34 : szOf Tryz.prog 34 = 1 := by kernel_rfl
@[simp] theorem sz35 : szOf Tryz.prog 35 = 1 := by kernel_rfl
@[simp] theorem sz38 : szOf Tryz.prog 38 = 1 := by kernel_rfl
@[simp] theorem sz41 : szOf Tryz.prog 41 = 1 := by kernel_rfl
@[simp] theorem sz42 : szOf Tryz.prog 42 = 1 := by kernel_rfl
@[simp] theorem sz44 : szOf Tryz.prog 44 = 5 := by kernel_rfl
@[simp] theorem sz46 : szOf Tryz.prog 46 = 1 := by kernel_rfl
@[simp] theorem sz48 : szOf Tryz.prog 48 = 6 := by kernel_rfl
@[simp] theorem sz55 : szOf Tryz.prog 55 = 5 := by kernel_rfl
@[simp] theorem sz57 : szOf Tryz.prog 57 = 1 := by kernel_rfl
@[simp] theorem sz58 : szOf Tryz.prog 58 = 1 := by kernel_rfl
@[simp] theorem sz60 : szOf Tryz.prog 60 = 2 := by kernel_rfl
@[simp] theorem sz64 : szOf Tryz.prog 64 = 1 := by kernel_rfl
@[simp] theorem sz66 : szOf Tryz.prog 66 = 2 := by kernel_rfl
@[simp] theorem sz74 : szOf Tryz.prog 74 = 1 := by kernel_rfl
@[simp] theorem sz75 : szOf Tryz.prog 75 = 1 := by kernel_rfl
@[simp] theorem sz79 : szOf Tryz.prog 79 = 4 := by kernel_rfl
@[simp] theorem sz81 : szOf Tryz.prog 81 = 2 := by kernel_rfl
@[simp] theorem sz84 : szOf Tryz.prog 84 = 1 := by kernel_rfl
@[simp] theorem sz87 : szOf Tryz.prog 87 = 1 := by kernel_rfl
@[simp] theorem sz88 : szOf Tryz.prog 88 = 1 := by kernel_rfl
@[simp] theorem sz91 : szOf Tryz.prog 91 = 5 := by kernel_rfl
@[simp] theorem sz93 : szOf Tryz.prog 93 = 5 := by kernel_rfl
@[simp] theorem sz95 : szOf Tryz.prog 95 = 1 := by kernel_rfl
@[simp] theorem sz104 : szOf Tryz.prog 104 = 1 := by kernel_rfl
@[simp] theorem sz114 : szOf Tryz.prog 114 = 3 := by kernel_rfl
@[simp] theorem sz121 : szOf Tryz.prog 121 = 1 := by kernel_rfl
@[simp] theorem sz124 : szOf Tryz.prog 124 = 1 := by kernel_rfl
@[simp] theorem sz128 : szOf Tryz.prog 128 = 1 := by kernel_rfl
@[simp] theorem sz132 : szOf Tryz.prog 132 = 1 := by kernel_rfl
@[simp] theorem sz142 : szOf Tryz.prog 142 = 3 := by kernel_rfl
@[simp] theorem sz145 : szOf Tryz.prog 145 = 1 := by kernel_rfl
@[simp] theorem sz147 : szOf Tryz.prog 147 = 2 := by kernel_rfl
@[simp] theorem sz148 : szOf Tryz.prog 148 = 1 := by kernel_rfl
@[simp] theorem sz150 : szOf Tryz.prog 150 = 3 := by kernel_rfl
@[simp] theorem sz152 : szOf Tryz.prog 152 = 1 := by kernel_rfl
@[simp] theorem sz156 : szOf Tryz.prog 156 = 2 := by kernel_rfl
@[simp] theorem sz160 : szOf Tryz.prog 160 = 1 := by kernel_rfl
@[simp] theorem sz164 : szOf Tryz.prog 164 = 1 := by kernel_rfl
@[simp] theorem sz169 : szOf Tryz.prog 169 = 1 := by kernel_rfl
@[simp] theorem sz178 : szOf Tryz.prog 178 = 2 := by kernel_rfl
@[simp] theorem sz191 : szOf Tryz.prog 191 = 1 := by kernel_rfl
@[simp] theorem sz194 : szOf Tryz.prog 194 = 1 := by kernel_rfl
@[simp] theorem sz203 : szOf Tryz.prog 203 = 6 := by kernel_rfl
@[simp] theorem sz206 : szOf Tryz.prog 206 = 1 := by kernel_rfl
@[simp] theorem sz208 : szOf Tryz.prog 208 = 3 := by kernel_rfl
@[simp] theorem sz227 : szOf Tryz.prog 227 = 1 := by kernel_rfl
@[simp] theorem sz230 : szOf Tryz.prog 230 = 1 := by kernel_rfl
@[simp] theorem sz240 : szOf Tryz.prog 240 = 1 := by kernel_rfl
@[simp] theorem sz254 : szOf Tryz.prog 254 = 7 := by kernel_rfl
@[simp] theorem un28 : Tryz.prog.underlying 28 = some (.slice 3) := by kernel_rfl
@[simp] theorem un41 : Tryz.prog.underlying 41 = some (.slice 114) := by kernel_rfl
@[simp] theorem un42 : Tryz.prog.underlying 42 = some (.slice 178) := by kernel_rfl
@[simp] theorem un51 : Tryz.prog.underlying 51 = some (.slice 64) := by kernel_rfl
@[simp] theorem un74 : Tryz.prog.underlying 74 = some (.slice 79) := by kernel_rfl
@[simp] theorem un75 : Tryz.prog.underlying 75 = some (.slice 79) := by kernel_rfl
@[simp] theorem un84 : Tryz.prog.underlying 84 = some (.slice 44) := by kernel_rfl
@[simp] theorem un85 : Tryz.prog.underlying 85 = some (.slice 9) := by kernel_rfl
@[simp] theorem un88 : Tryz.prog.underlying 88 = some (.slice 91) := by kernel_rfl
@[simp] theorem un132 : Tryz.prog.underlying 132 = some (.slice 5) := by kernel_rfl
@[simp] theorem un148 : Tryz.prog.underlying 148 = some (.slice 147) := by kernel_rfl
@[simp] theorem un191 : Tryz.prog.underlying 191 = some (.slice 2) := by kernel_rfl
@[simp] theorem un194 : Tryz.prog.underlying 194 = some (.slice 203) := by kernel_rfl
@[simp] theorem un227 : Tryz.prog.underlying 227 = some (.slice 230) := by kernel_rfl
@[simp] theorem zero2 : zeroOf Tryz.prog 2 = some [.int .i64 0] := by kernel_rfl
@[simp] theorem zero3 : zeroOf Tryz.prog 3 = some [.int .i64 0] := by kernel_rfl
@[simp] theorem zero26 : zeroOf Tryz.prog 26 = some [.slice none 0 0] := by kernel_rfl
@[simp] theorem zero30 : zeroOf Tryz.prog 30 = some [.int .i64 0, .int .i64 0] := by kernel_rfl
@[simp] theorem zero32 : zeroOf Tryz.prog 32 = some [.slice none 0 0, .int .u64 0, .slice none 0 0, .int .i64 0, .int .i64 0] := by kernel_rfl
@[simp] theorem zero34 : zeroOf Tryz.prog 34 = some [.pointer none] := by kernel_rfl
@[simp] theorem zero44 : zeroOf Tryz.prog 44 = some [.int .i64 0, .slice none 0 0, .int .i64 0, .int .i64 0, .slice none 0 0] := by kernel_rfl
@[simp] theorem zero48 : zeroOf Tryz.prog 48 = some [.slice none 0 0, .bool false, .int .i64 0, .int .i64 0, .slice none 0 0, .int .i64 0] := by kernel_rfl
@[simp] theorem zero55 : zeroOf Tryz.prog 55 = some [.int .i64 0, .slice none 0 0, .int .i64 0, .int .i64 0, .slice none 0 0] := by kernel_rfl
@[simp] theorem zero60 : zeroOf Tryz.prog 60 = some [.int .u32 0, .int .i64 0] := by kernel_rfl
@[simp] theorem zero62 : zeroOf Tryz.prog 62 = some [.pointer none, .slice none 0 0, .int .u32 0, .int .i64 0, .int .i64 0, .int .i64 0] := by kernel_rfl
@[simp] theorem zero66 : zeroOf Tryz.prog 66 = some [.int .i64 0, .int .u64 0] := by kernel_rfl
@[simp] theorem zero79 : zeroOf Tryz.prog 79 = some [.int .i64 0, .int .i64 0, .int .i64 0, .int .i64 0] := by kernel_rfl
@[simp] theorem zero81 : zeroOf Tryz.prog 81 = some [.int .i64 0, .slice none 0 0] := by kernel_rfl
@[simp] theorem zero87 : zeroOf Tryz.prog 87 = some [.int .i64 0] := by kernel_rfl
@[simp] theorem zero88 : zeroOf Tryz.prog 88 = some [.slice none 0 0] := by kernel_rfl
@[simp] theorem zero91 : zeroOf Tryz.prog 91 = some [.int .i64 0, .int .i64 0, .int .u64 0, .int .i64 0, .string (bs [])] := by kernel_rfl
@[simp] theorem zero93 : zeroOf Tryz.prog 93 = some [.int .i64 0, .int .i64 0, .int .u64 0, .int .i64 0, .string (bs [])] := by kernel_rfl
@[simp] theorem zero95 : zeroOf Tryz.prog 95 = some [.int .i64 0] := by kernel_rfl
@[simp] theorem zero101 : zeroOf Tryz.prog 101 = some [] := by kernel_rfl
@[simp] theorem zero107 : zeroOf Tryz.prog 107 = some [.int .i64 0, .slice none 0 0, .pointer none, .pointer none, .slice none 0 0, .slice none 0 0, .int .i64 0, .int .i64 0] := by kernel_rfl
@[simp] theorem zero114 : zeroOf Tryz.prog 114 = some [.int .i64 0, .int .i64 0, .slice none 0 0] := by kernel_rfl
@[simp] theorem zero121 : zeroOf Tryz.prog 121 = some [.int .i64 0] := by kernel_rfl
@[simp] theorem zero123 : zeroOf Tryz.prog 123 = some [.int .i64 0, .bool false] := by kernel_rfl
@[simp] theorem zero130 : zeroOf Tryz.prog 130 = some [.pointer none, .int .i64 0, .int .i64 0, .int .i64 0, .int .i64 0, .int .i64 0, .int .i64 0, .int .i64 0, .pointer none, .int .i64 0, .int .i64 0] := by kernel_rfl
@[simp] theorem zero134 : zeroOf Tryz.prog 134 = some [.slice none 0 0] := by kernel_rfl
@[simp] theorem zero142 : zeroOf Tryz.prog 142 = some [.int .i64 0, .int .i64 0, .int .u64 0] := by kernel_rfl
@[simp] theorem zero147 : zeroOf Tryz.prog 147 = some [.int .u8 0, .int .i64 0] := by kernel_rfl
@[simp] theorem zero150 : zeroOf Tryz.prog 150 = some [.int .i64 0, .int .i64 0, .slice none 0 0] := by kernel_rfl
@[simp] theorem zero154 : zeroOf Tryz.prog 154 = some [.int .i64 0, .int .i64 0, .int .u64 0, .bool false, .map none] := by kernel_rfl
@[simp] theorem zero156 : zeroOf Tryz.prog 156 = some [.int .i64 0, .int .i64 0] := by kernel_rfl
@[simp] theorem zero163 : zeroOf Tryz.prog 163 = some [.int .i64 0, .int .i64 0, .int .i64 0, .int .i64 0, .int .i64 0, .int .i64 0, .int .i64 0, .int .i64 0, .int .i64 0, .int .i64 0, .int .i64 0, .int .i64 0, .int .i64 0, .int .i64 0, .int .i64 0, .int .i64 0, .int .i64 0, .int .i64 0, .int .i64 0, .int .i64 0, .int .i64 0, .int .i64 0, .int .i64 0, .int .i64 0, .int .i64 0, .int .i64 0, .int .i64 0, .int .i64 0, .int .i64 0, .int .i64 0, .int .i64 0, .int .i64 0, .int .i64 0, .int .i64 0, .int .i64 0, .int .i64 0, .int .i64 0, .int .i64 0, .int .i64 0, .int .i64 0, .int .i64 0, .int .i64 0, .int .i64 0, .int .i64 0, .int .i64 0, .int .i64 0, .int .i64 0, .int .i64 0, .int .i64 0, .int .i64 0, .int .i64 0, .int .i64 0, .int .i64 0, .int .i64 0, .int .i64 0, .int .i64 0, .int .i64 0, .int .i64 0, .int .i64 0, .int .i64 0, .int .i64 0, .int .i64 0, .int .i64 0, .int .i64 0] := by kernel_rfl
@[simp] theorem zero167 : zeroOf Tryz.prog 167 = some [.pointer none] := by kernel_rfl
@[simp] theorem zero171 : zeroOf Tryz.prog 171 = some [.pointer none, .pointer none, .slice none 0 0, .nilIface] := by kernel_rfl
@[simp] theorem zero178 : zeroOf Tryz.prog 178 = some [.int .i64 0, .slice none 0 0] := by kernel_rfl
@[simp] theorem zero196 : zeroOf Tryz.prog 196 = some [.slice none 0 0, .int .i64 0] := by kernel_rfl
@[simp] theorem zero198 : zeroOf Tryz.prog 198 = some [.int .u64 0] := by kernel_rfl
@[simp] theorem zero201 : zeroOf Tryz.prog 201 = some [.int .i64 0, .int .i64 0, .int .i64 0, .int .i64 0, .int .i64 0] := by kernel_rfl
@[simp] theorem zero203 : zeroOf Tryz.prog 203 = some [.int .i64 0, .int .i64 0, .int .i64 0, .int .i64 0, .int .i64 0, .int .i64 0] := by kernel_rfl
@[simp] theorem zero208 : zeroOf Tryz.prog 208 = some [.int .i64 0, .int .i64 0, .int .i64 0] := by kernel_rfl
@[simp] theorem zero229 : zeroOf Tryz.prog 229 = some [.pointer none, .slice none 0 0, .int .i64 0, .int .i64 0] := by kernel_rfl
@[simp] theorem zero233 : zeroOf Tryz.prog 233 = some [.string (bs []), .int .i64 0] := by kernel_rfl
@[simp] theorem zero242 : zeroOf Tryz.prog 242 = some [.slice none 0 0] := by kernel_rfl
@[simp] theorem zero244 : zeroOf Tryz.prog 244 = some [.pointer none, .int .i64 0, .int .i64 0, .slice none 0 0] := by kernel_rfl
@[simp] theorem zero254 : zeroOf Tryz.prog 254 = some [.int .i64 0, .int .i64 0, .int .i64 0, .int .i64 0, .int .i64 0, .int .i64 0, .int .i64 0] := by kernel_rfl
@[simp] theorem zt9 : zT Tryz.prog 9 = some (.v (.string (bs []))) := by kernel_rfl
end Go.Proofs.YtnkdkajllmopaaaGreat.TL
