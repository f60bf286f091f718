/-
Texts of this claim, one behind the other.
-/
import Derived.Test.YtddakleppmoloaaGreatAe
import Derived.KernelRfl
set_option linter.unusedSimpArgs false
set_option linter.unusedVariables false
set_option maxRecDepth 100000
namespace Go.Ev
open Go.Proofs
noncomputable def c2 : Code := (Tryz.f2.body).getD .skip
noncomputable def c3 : Code := (Tryz.f3.body).getD .skip
noncomputable def c4 : Code := (Tryz.f4.body).getD .skip
noncomputable def c5 : Code := (Tryz.f5.body).getD .skip
noncomputable def c6 : Code := (Tryz.f6.body).getD .skip
noncomputable def c7 : Code := (Tryz.f7.body).getD .skip
noncomputable def c8 : Code := (Tryz.f8.body).getD .skip
noncomputable def c9 : Code := (Tryz.f9.body).getD .skip
theorem body9 : X.body 9 = some (c9, 201, [.tmp 6]) := by kernel_rfl
theorem slot9 : X.slot 9 = fun t => posT [12, 19, 20] t 0 := rfl
theorem nslot9 : X.nslots 9 = 3 := rfl
theorem pin9 : X.pin 9 = none := rfl
theorem plan9_22 : X.plan 9 22 = [(0, [], []), (1, [], []), (2, [], []), (3, [], []), (4, [], []), (5, [0], []), (6, [], []), (7, [], []), (8, [], []), (9, [], []), (10, [], []), (11, [], []), (12, [0], []), (13, [0], []), (14, [], []), (15, [], []), (16, [], []), (17, [], [])] := by kernel_rfl
noncomputable def c10 : Code := (Tryz.f10.body).getD .skip
theorem body10 : X.body 10 = some (c10, 35, [.tmp 2]) := by kernel_rfl
theorem slot10 : X.slot 10 = fun t => posT [1] t 0 := rfl
theorem nslot10 : X.nslots 10 = 1 := rfl
theorem pin10 : X.pin 10 = none := rfl
noncomputable def c11 : Code := (Tryz.f11.body).getD .skip
noncomputable def c12 : Code := (Tryz.f12.body).getD .skip
theorem body12 : X.body 12 = some (c12, 113, [.tmp 2]) := by kernel_rfl
theorem slot12 : X.slot 12 = fun t => posT [1, 4] t 0 := rfl
theorem nslot12 : X.nslots 12 = 2 := rfl
theorem pin12 : X.pin 12 = none := rfl
theorem plan12_8 : X.plan 12 8 = [(0, [1], []), (1, [], []), (2, [], []), (3, [], []), (4, [], []), (5, [], []), (6, [], []), (7, [0], []), (8, [0], []), (9, [], []), (10, [], []), (11, [], []), (12, [], []), (13, [1], []), (14, [], []), (15, [], []), (16, [], []), (17, [], [])] := by kernel_rfl
noncomputable def c13 : Code := (Tryz.f13.body).getD .skip
theorem body13 : X.body 13 = some (c13, 20, [.tmp 4]) := by kernel_rfl
theorem slot13 : X.slot 13 = fun t => posT [3, 6] t 0 := rfl
theorem nslot13 : X.nslots 13 = 2 := rfl
theorem pin13 : X.pin 13 = none := rfl
noncomputable def c14 : Code := (Tryz.f14.body).getD .skip
theorem body14 : X.body 14 = some (c14, 70, [.tmp 8, .tmp 9]) := by kernel_rfl
theorem slot14 : X.slot 14 = fun t => posT [12, 13] t 0 := rfl
theorem nslot14 : X.nslots 14 = 2 := rfl
theorem pin14 : X.pin 14 = none := rfl
theorem plan14_7 : X.plan 14 7 = [(0, [], []), (1, [], []), (2, [], []), (3, [], []), (4, [0], []), (5, [0], []), (10, [], []), (6, [], []), (7, [], []), (8, [], []), (9, [], []), (11, [1], []), (12, [], [])] := by kernel_rfl
theorem plan14_8 : X.plan 14 8 = [(0, [], []), (1, [], []), (2, [], []), (3, [0], []), (4, [0], []), (5, [0], []), (6, [], []), (7, [], []), (8, [], []), (9, [], []), (10, [], []), (11, [], []), (12, [], []), (13, [], []), (14, [0], []), (15, [], []), (16, [], []), (17, [], [])] := by kernel_rfl
noncomputable def c15 : Code := (Tryz.f15.body).getD .skip
theorem body15 : X.body 15 = some (c15, 111, [.cell 4 46]) := by kernel_rfl
theorem slot15 : X.slot 15 = fun t => posT [3, 4] t 0 := rfl
theorem nslot15 : X.nslots 15 = 2 := rfl
theorem pin15 : X.pin 15 = none := rfl
theorem plan15_1 : X.plan 15 1 = [(0, [], []), (1, [], []), (2, [], []), (3, [0], []), (4, [0], []), (5, [], []), (6, [], []), (7, [], []), (8, [], []), (9, [], []), (10, [], []), (11, [], []), (12, [0], []), (13, [0], []), (14, [], []), (15, [], []), (16, [], []), (17, [], []), (18, [], []), (19, [], []), (20, [], []), (21, [0], []), (22, [0], []), (23, [], []), (24, [], []), (25, [], []), (26, [], []), (27, [], []), (28, [], []), (29, [], []), (30, [0], []), (31, [0], []), (32, [], []), (33, [], []), (34, [], []), (35, [0], []), (36, [0], []), (37, [], []), (38, [], [])] := by kernel_rfl
theorem plan15_3 : X.plan 15 3 = [(0, [], []), (1, [], []), (2, [], []), (3, [], []), (4, [0], []), (5, [0], []), (6, [], []), (7, [], []), (8, [], []), (9, [0], []), (10, [0], []), (11, [], []), (12, [], []), (13, [], []), (14, [], []), (15, [], []), (16, [], []), (17, [], []), (18, [], []), (19, [0], []), (20, [0], []), (21, [0], []), (22, [0], []), (23, [], []), (24, [], []), (25, [], [])] := by kernel_rfl
noncomputable def c21 : Code := (Tryz.f21.body).getD .skip
theorem body21 : X.body 21 = some (c21, 10, [.tmp 2]) := by kernel_rfl
theorem slot21 : X.slot 21 = fun t => posT [] t 0 := rfl
theorem nslot21 : X.nslots 21 = 0 := rfl
theorem pin21 : X.pin 21 = none := rfl
noncomputable def c22 : Code := (Tryz.f22.body).getD .skip
theorem body22 : X.body 22 = some (c22, 76, [.cell 4 24, .cell 5 46, .tmp 6]) := by kernel_rfl
theorem slot22 : X.slot 22 = fun t => posT [3, 4, 5, 7, 8, 11] t 0 := rfl
theorem nslot22 : X.nslots 22 = 6 := rfl
theorem pin22 : X.pin 22 = none := rfl
theorem plan22_5 : X.plan 22 5 = [(0, [], []), (1, [], []), (2, [], []), (3, [], []), (4, [], []), (5, [], []), (6, [], []), (7, [], []), (8, [], []), (9, [], []), (10, [], []), (11, [], []), (14, [], []), (12, [], [(3, [])]), (13, [], []), (15, [3], [])] := by kernel_rfl
theorem plan22_7 : X.plan 22 7 = [(0, [], []), (1, [], []), (2, [], []), (3, [], []), (4, [0], []), (5, [3], []), (6, [], []), (7, [], []), (8, [], []), (9, [], []), (10, [], []), (11, [], [])] := by kernel_rfl
theorem plan22_12 : X.plan 22 12 = [(0, [3], []), (1, [], []), (2, [], [(0, [3])]), (3, [1], []), (4, [2], []), (5, [], [])] := by kernel_rfl
noncomputable def c23 : Code := (Tryz.f23.body).getD .skip
theorem body23 : X.body 23 = some (c23, 24, [.tmp 4]) := by kernel_rfl
theorem slot23 : X.slot 23 = fun t => posT [2, 3] t 0 := rfl
theorem nslot23 : X.nslots 23 = 2 := rfl
theorem pin23 : X.pin 23 = none := rfl
noncomputable def c27 : Code := (Tryz.f27.body).getD .skip
theorem body27 : X.body 27 = some (c27, 21, [.tmp 2]) := by kernel_rfl
theorem slot27 : X.slot 27 = fun t => posT [1] t 0 := rfl
theorem nslot27 : X.nslots 27 = 1 := rfl
theorem pin27 : X.pin 27 = none := rfl
noncomputable def c30 : Code := (Tryz.f30.body).getD .skip
theorem body30 : X.body 30 = some (c30, 157, [.cell 4 46]) := by kernel_rfl
theorem slot30 : X.slot 30 = fun t => posT [4, 6, 8, 11, 14, 29] t 0 := rfl
theorem nslot30 : X.nslots 30 = 6 := rfl
theorem pin30 : X.pin 30 = none := rfl
theorem plan30_11 : X.plan 30 11 = [(0, [], []), (1, [], []), (2, [], []), (3, [], []), (4, [2], []), (5, [], []), (6, [], [])] := by kernel_rfl
theorem plan30_12 : X.plan 30 12 = [(0, [], []), (1, [], []), (2, [], []), (3, [], []), (4, [2], []), (5, [], [])] := by kernel_rfl
theorem plan30_20 : X.plan 30 20 = [(0, [], []), (1, [], []), (2, [], []), (3, [], []), (4, [3], []), (5, [], []), (6, [], [])] := by kernel_rfl
theorem plan30_21 : X.plan 30 21 = [(0, [], []), (1, [], []), (2, [], []), (3, [], []), (4, [3], []), (5, [], [])] := by kernel_rfl
theorem plan30_22 : X.plan 30 22 = [(0, [], []), (1, [], []), (2, [], []), (3, [], []), (4, [3], []), (5, [], []), (6, [], []), (7, [], []), (8, [], []), (9, [], [])] := by kernel_rfl
theorem plan30_23 : X.plan 30 23 = [(11, [], [])] := by kernel_rfl
theorem plan30_24 : X.plan 30 24 = [(0, [], []), (1, [], []), (2, [], []), (3, [], []), (4, [3], []), (5, [], [])] := by kernel_rfl
noncomputable def c31 : Code := (Tryz.f31.body).getD .skip
theorem body31 : X.body 31 = some (c31, 66, [.tmp 4]) := by kernel_rfl
theorem slot31 : X.slot 31 = fun t => posT [2, 3] t 0 := rfl
theorem nslot31 : X.nslots 31 = 2 := rfl
theorem pin31 : X.pin 31 = none := rfl
theorem plan31_6 : X.plan 31 6 = [(0, [0], []), (1, [0], []), (2, [], []), (3, [], []), (4, [], []), (5, [1], []), (6, [1], []), (7, [], []), (8, [], []), (9, [], []), (10, [], [])] := by kernel_rfl
noncomputable def c32 : Code := (Tryz.f32.body).getD .skip
theorem body32 : X.body 32 = some (c32, 117, [.tmp 2]) := by kernel_rfl
theorem slot32 : X.slot 32 = fun t => posT [1] t 0 := rfl
theorem nslot32 : X.nslots 32 = 1 := rfl
theorem pin32 : X.pin 32 = none := rfl
noncomputable def c35 : Code := (Tryz.f35.body).getD .skip
theorem body35 : X.body 35 = some (c35, 17, [.cell 2 22]) := by kernel_rfl
theorem slot35 : X.slot 35 = fun t => posT [2, 3, 14] t 0 := rfl
theorem nslot35 : X.nslots 35 = 3 := rfl
theorem pin35 : X.pin 35 = none := rfl
noncomputable def c36 : Code := (Tryz.f36.body).getD .skip
theorem body36 : X.body 36 = some (c36, 21, [.tmp 2]) := by kernel_rfl
theorem slot36 : X.slot 36 = fun t => posT [1] t 0 := rfl
theorem nslot36 : X.nslots 36 = 1 := rfl
theorem pin36 : X.pin 36 = none := rfl
noncomputable def c37 : Code := (Tryz.f37.body).getD .skip
theorem body37 : X.body 37 = some (c37, 24, [.tmp 4]) := by kernel_rfl
theorem slot37 : X.slot 37 = fun t => posT [2, 3] t 0 := rfl
theorem nslot37 : X.nslots 37 = 2 := rfl
theorem pin37 : X.pin 37 = none := rfl
noncomputable def c38 : Code := (Tryz.f38.body).getD .skip
theorem body38 : X.body 38 = some (c38, 36, [.tmp 2]) := by kernel_rfl
theorem slot38 : X.slot 38 = fun t => posT [] t 0 := rfl
theorem nslot38 : X.nslots 38 = 0 := rfl
theorem pin38 : X.pin 38 = none := rfl
noncomputable def c39 : Code := (Tryz.f39.body).getD .skip
theorem body39 : X.body 39 = some (c39, 9, [.tmp 4]) := by kernel_rfl
theorem slot39 : X.slot 39 = fun t => posT [] t 0 := rfl
theorem nslot39 : X.nslots 39 = 0 := rfl
theorem pin39 : X.pin 39 = none := rfl
noncomputable def c40 : Code := (Tryz.f40.body).getD .skip
theorem body40 : X.body 40 = some (c40, 8, [.tmp 2]) := by kernel_rfl
theorem slot40 : X.slot 40 = fun t => posT [] t 0 := rfl
theorem nslot40 : X.nslots 40 = 0 := rfl
theorem pin40 : X.pin 40 = none := rfl
noncomputable def c41 : Code := (Tryz.f41.body).getD .skip
theorem body41 : X.body 41 = some (c41, 4, [.tmp 0]) := by kernel_rfl
theorem slot41 : X.slot 41 = fun t => posT [] t 0 := rfl
theorem nslot41 : X.nslots 41 = 0 := rfl
theorem pin41 : X.pin 41 = none := rfl
noncomputable def c42 : Code := (Tryz.f42.body).getD .skip
theorem body42 : X.body 42 = some (c42, 23, [.cell 4 32, .tmp 5]) := by kernel_rfl
theorem slot42 : X.slot 42 = fun t => posT [3, 4, 6] t 0 := rfl
theorem nslot42 : X.nslots 42 = 3 := rfl
theorem pin42 : X.pin 42 = none := rfl
theorem plan42_3 : X.plan 42 3 = [(0, [], []), (1, [], []), (2, [], []), (3, [], []), (4, [0], []), (9, [], []), (5, [], []), (6, [], []), (7, [], []), (8, [], []), (10, [2], []), (11, [], [])] := by kernel_rfl
noncomputable def c43 : Code := (Tryz.f43.body).getD .skip
theorem body43 : X.body 43 = some (c43, 40, [.tmp 4]) := by kernel_rfl
theorem slot43 : X.slot 43 = fun t => posT [3, 5] t 0 := rfl
theorem nslot43 : X.nslots 43 = 2 := rfl
theorem pin43 : X.pin 43 = none := rfl
theorem plan43_5 : X.plan 43 5 = [(0, [], []), (1, [], []), (2, [], []), (3, [], []), (4, [0], []), (5, [0], []), (10, [], []), (6, [], []), (7, [], []), (8, [], []), (9, [], []), (11, [1], []), (12, [], [])] := by kernel_rfl
theorem plan43_8 : X.plan 43 8 = [(0, [], []), (1, [], []), (2, [], []), (3, [], []), (4, [0], []), (5, [0], []), (6, [0], []), (7, [], [(3, []), (5, [0])]), (8, [], [])] := by kernel_rfl
noncomputable def c44 : Code := (Tryz.f44.body).getD .skip
theorem body44 : X.body 44 = some (c44, 60, [.tmp 2]) := by kernel_rfl
theorem slot44 : X.slot 44 = fun t => posT [1] t 0 := rfl
theorem nslot44 : X.nslots 44 = 1 := rfl
theorem pin44 : X.pin 44 = none := rfl
noncomputable def c55 : Code := (Tryz.f55.body).getD .skip
theorem body55 : X.body 55 = some (c55, 85, [.tmp 2]) := by kernel_rfl
theorem slot55 : X.slot 55 = fun t => posT [1] t 0 := rfl
theorem nslot55 : X.nslots 55 = 1 := rfl
theorem pin55 : X.pin 55 = none := rfl
noncomputable def c58 : Code := (Tryz.f58.body).getD .skip
theorem body58 : X.body 58 = some (c58, 10, [.tmp 2]) := by kernel_rfl
theorem slot58 : X.slot 58 = fun t => posT [] t 0 := rfl
theorem nslot58 : X.nslots 58 = 0 := rfl
theorem pin58 : X.pin 58 = none := rfl
noncomputable def c62 : Code := (Tryz.f62.body).getD .skip
theorem body62 : X.body 62 = some (c62, 10, [.tmp 2]) := by kernel_rfl
theorem slot62 : X.slot 62 = fun t => posT [] t 0 := rfl
theorem nslot62 : X.nslots 62 = 0 := rfl
theorem pin62 : X.pin 62 = none := rfl
noncomputable def c68 : Code := (Tryz.f68.body).getD .skip
theorem body68 : X.body 68 = some (c68, 19, [.tmp 2]) := by kernel_rfl
theorem slot68 : X.slot 68 = fun t => posT [] t 0 := rfl
theorem nslot68 : X.nslots 68 = 0 := rfl
theorem pin68 : X.pin 68 = none := rfl
noncomputable def c69 : Code := (Tryz.f69.body).getD .skip
theorem body69 : X.body 69 = some (c69, 4, [.tmp 2]) := by kernel_rfl
theorem slot69 : X.slot 69 = fun t => posT [] t 0 := rfl
theorem nslot69 : X.nslots 69 = 0 := rfl
theorem pin69 : X.pin 69 = none := rfl
noncomputable def c70 : Code := (Tryz.f70.body).getD .skip
theorem body70 : X.body 70 = some (c70, 19, [.tmp 4]) := by kernel_rfl
theorem slot70 : X.slot 70 = fun t => posT [] t 0 := rfl
theorem nslot70 : X.nslots 70 = 0 := rfl
theorem pin70 : X.pin 70 = none := rfl
noncomputable def c71 : Code := (Tryz.f71.body).getD .skip
theorem body71 : X.body 71 = some (c71, 14, [.cell 2 32]) := by kernel_rfl
theorem slot71 : X.slot 71 = fun t => posT [1, 2] t 0 := rfl
theorem nslot71 : X.nslots 71 = 2 := rfl
theorem pin71 : X.pin 71 = none := rfl
noncomputable def c72 : Code := (Tryz.f72.body).getD .skip
theorem body72 : X.body 72 = some (c72, 21, [.tmp 2]) := by kernel_rfl
theorem slot72 : X.slot 72 = fun t => posT [1] t 0 := rfl
theorem nslot72 : X.nslots 72 = 1 := rfl
theorem pin72 : X.pin 72 = none := rfl
noncomputable def c73 : Code := (Tryz.f73.body).getD .skip
theorem body73 : X.body 73 = some (c73, 21, [.tmp 2]) := by kernel_rfl
theorem slot73 : X.slot 73 = fun t => posT [1] t 0 := rfl
theorem nslot73 : X.nslots 73 = 1 := rfl
theorem pin73 : X.pin 73 = none := rfl
noncomputable def c74 : Code := (Tryz.f74.body).getD .skip
theorem body74 : X.body 74 = some (c74, 20, [.tmp 4]) := by kernel_rfl
theorem slot74 : X.slot 74 = fun t => posT [2, 3] t 0 := rfl
theorem nslot74 : X.nslots 74 = 2 := rfl
theorem pin74 : X.pin 74 = none := rfl
noncomputable def c75 : Code := (Tryz.f75.body).getD .skip
theorem body75 : X.body 75 = some (c75, 10, [.tmp 2]) := by kernel_rfl
theorem slot75 : X.slot 75 = fun t => posT [1] t 0 := rfl
theorem nslot75 : X.nslots 75 = 1 := rfl
theorem pin75 : X.pin 75 = none := rfl
noncomputable def c76 : Code := (Tryz.f76.body).getD .skip
theorem body76 : X.body 76 = some (c76, 33, [.tmp 2]) := by kernel_rfl
theorem slot76 : X.slot 76 = fun t => posT [4] t 0 := rfl
theorem nslot76 : X.nslots 76 = 1 := rfl
theorem pin76 : X.pin 76 = none := rfl
theorem plan76_4 : X.plan 76 4 = [(0, [0], []), (1, [], []), (2, [], []), (3, [], []), (4, [], []), (5, [], []), (6, [], []), (7, [], []), (8, [], []), (9, [], []), (10, [], []), (11, [], []), (12, [0], []), (13, [], []), (14, [], []), (15, [], []), (16, [], [])] := by kernel_rfl
noncomputable def c82 : Code := (Tryz.f82.body).getD .skip
theorem body82 : X.body 82 = some (c82, 26, [.tmp 4]) := by kernel_rfl
theorem slot82 : X.slot 82 = fun t => posT [] t 0 := rfl
theorem nslot82 : X.nslots 82 = 0 := rfl
theorem pin82 : X.pin 82 = none := rfl
theorem plan82_6 : X.plan 82 6 = [(0, [], []), (1, [], []), (2, [], []), (3, [], []), (4, [], []), (5, [], []), (6, [], []), (7, [], []), (8, [], [])] := by kernel_rfl
noncomputable def c86 : Code := (Tryz.f86.body).getD .skip
theorem body86 : X.body 86 = some (c86, 27, [.tmp 2]) := by kernel_rfl
theorem slot86 : X.slot 86 = fun t => posT [1] t 0 := rfl
theorem nslot86 : X.nslots 86 = 1 := rfl
theorem pin86 : X.pin 86 = none := rfl
noncomputable def c87 : Code := (Tryz.f87.body).getD .skip
theorem body87 : X.body 87 = some (c87, 9, [.tmp 2]) := by kernel_rfl
theorem slot87 : X.slot 87 = fun t => posT [] t 0 := rfl
theorem nslot87 : X.nslots 87 = 0 := rfl
theorem pin87 : X.pin 87 = none := rfl
noncomputable def c88 : Code := (Tryz.f88.body).getD .skip
theorem body88 : X.body 88 = some (c88, 9, [.tmp 4]) := by kernel_rfl
theorem slot88 : X.slot 88 = fun t => posT [] t 0 := rfl
theorem nslot88 : X.nslots 88 = 0 := rfl
theorem pin88 : X.pin 88 = none := rfl
noncomputable def c89 : Code := (Tryz.f89.body).getD .skip
theorem body89 : X.body 89 = some (c89, 6, [.tmp 2]) := by kernel_rfl
theorem slot89 : X.slot 89 = fun t => posT [] t 0 := rfl
theorem nslot89 : X.nslots 89 = 0 := rfl
theorem pin89 : X.pin 89 = none := rfl
noncomputable def c90 : Code := (Tryz.f90.body).getD .skip
theorem body90 : X.body 90 = some (c90, 18, [.tmp 2]) := by kernel_rfl
theorem slot90 : X.slot 90 = fun t => posT [] t 0 := rfl
theorem nslot90 : X.nslots 90 = 0 := rfl
theorem pin90 : X.pin 90 = none := rfl
noncomputable def c91 : Code := (Tryz.f91.body).getD .skip
theorem body91 : X.body 91 = some (c91, 29, [.tmp 2]) := by kernel_rfl
theorem slot91 : X.slot 91 = fun t => posT [4, 24] t 0 := rfl
theorem nslot91 : X.nslots 91 = 2 := rfl
theorem pin91 : X.pin 91 = some (.s refsG) := rfl
noncomputable def c94 : Code := (Tryz.f94.body).getD .skip
theorem body94 : X.body 94 = some (c94, 36, [.tmp 2]) := by kernel_rfl
theorem slot94 : X.slot 94 = fun t => posT [] t 0 := rfl
theorem nslot94 : X.nslots 94 = 0 := rfl
theorem pin94 : X.pin 94 = none := rfl
noncomputable def c95 : Code := (Tryz.f95.body).getD .skip
theorem body95 : X.body 95 = some (c95, 14, []) := by kernel_rfl
theorem slot95 : X.slot 95 = fun t => posT [] t 0 := rfl
theorem nslot95 : X.nslots 95 = 0 := rfl
theorem pin95 : X.pin 95 = none := rfl
noncomputable def c96 : Code := (Tryz.f96.body).getD .skip
theorem body96 : X.body 96 = some (c96, 12, [.tmp 4]) := by kernel_rfl
theorem slot96 : X.slot 96 = fun t => posT [2, 3] t 0 := rfl
theorem nslot96 : X.nslots 96 = 2 := rfl
theorem pin96 : X.pin 96 = none := rfl
theorem plan96_1 : X.plan 96 1 = [(0, [0], []), (1, [1], []), (3, [1], []), (4, [0], []), (2, [], [(3, [1]), (4, [0])]), (5, [], []), (6, [], []), (7, [], [])] := by kernel_rfl
noncomputable def c97 : Code := (Tryz.f97.body).getD .skip
theorem body97 : X.body 97 = some (c97, 9, [.tmp 4]) := by kernel_rfl
theorem slot97 : X.slot 97 = fun t => posT [] t 0 := rfl
theorem nslot97 : X.nslots 97 = 0 := rfl
theorem pin97 : X.pin 97 = none := rfl
noncomputable def c98 : Code := (Tryz.f98.body).getD .skip
theorem body98 : X.body 98 = some (c98, 20, [.tmp 4]) := by kernel_rfl
theorem slot98 : X.slot 98 = fun t => posT [2, 3] t 0 := rfl
theorem nslot98 : X.nslots 98 = 2 := rfl
theorem pin98 : X.pin 98 = none := rfl
noncomputable def c99 : Code := (Tryz.f99.body).getD .skip
theorem body99 : X.body 99 = some (c99, 61, [.tmp 2]) := by kernel_rfl
theorem slot99 : X.slot 99 = fun t => posT [] t 0 := rfl
theorem nslot99 : X.nslots 99 = 0 := rfl
theorem pin99 : X.pin 99 = none := rfl
theorem plan99_6 : X.plan 99 6 = [(0, [], []), (1, [], []), (2, [], []), (3, [], []), (4, [], []), (5, [], []), (6, [], []), (7, [], []), (8, [], []), (9, [], [])] := by kernel_rfl
theorem plan99_11 : X.plan 99 11 = [(0, [], []), (1, [], []), (2, [], []), (3, [], []), (4, [], []), (5, [], []), (6, [], []), (7, [], []), (8, [], []), (9, [], [])] := by kernel_rfl
noncomputable def c103 : Code := (Tryz.f103.body).getD .skip
theorem body103 : X.body 103 = some (c103, 25, []) := by kernel_rfl
theorem slot103 : X.slot 103 = fun t => posT [5] t 0 := rfl
theorem nslot103 : X.nslots 103 = 1 := rfl
theorem pin103 : X.pin 103 = none := rfl
theorem plan103_4 : X.plan 103 4 = [(0, [], []), (1, [], []), (2, [], []), (3, [], []), (4, [], []), (5, [0], []), (6, [], []), (7, [], []), (8, [], [])] := by kernel_rfl
noncomputable def c104 : Code := (Tryz.f104.body).getD .skip
theorem body104 : X.body 104 = some (c104, 27, [.tmp 2]) := by kernel_rfl
theorem slot104 : X.slot 104 = fun t => posT [4, 5] t 0 := rfl
theorem nslot104 : X.nslots 104 = 2 := rfl
theorem pin104 : X.pin 104 = some (.s cloneG) := rfl
theorem plan104_7 : X.plan 104 7 = [(0, [], []), (1, [], []), (2, [], []), (3, [], []), (4, [0], []), (5, [1], []), (6, [], [(3, []), (4, [0])]), (7, [], [])] := by kernel_rfl
noncomputable def c105 : Code := (Tryz.f105.body).getD .skip
theorem body105 : X.body 105 = some (c105, 8, [.tmp 2]) := by kernel_rfl
theorem slot105 : X.slot 105 = fun t => posT [] t 0 := rfl
theorem nslot105 : X.nslots 105 = 0 := rfl
theorem pin105 : X.pin 105 = none := rfl
noncomputable def c106 : Code := (Tryz.f106.body).getD .skip
theorem body106 : X.body 106 = some (c106, 8, [.tmp 2]) := by kernel_rfl
theorem slot106 : X.slot 106 = fun t => posT [] t 0 := rfl
theorem nslot106 : X.nslots 106 = 0 := rfl
theorem pin106 : X.pin 106 = none := rfl
noncomputable def c107 : Code := (Tryz.f107.body).getD .skip
theorem body107 : X.body 107 = some (c107, 59, [.tmp 4]) := by kernel_rfl
theorem slot107 : X.slot 107 = fun t => posT [2, 3] t 0 := rfl
theorem nslot107 : X.nslots 107 = 2 := rfl
theorem pin107 : X.pin 107 = none := rfl
noncomputable def c112 : Code := (Tryz.f112.body).getD .skip
theorem body112 : X.body 112 = some (c112, 19, [.tmp 4]) := by kernel_rfl
theorem slot112 : X.slot 112 = fun t => posT [] t 0 := rfl
theorem nslot112 : X.nslots 112 = 0 := rfl
theorem pin112 : X.pin 112 = none := rfl
noncomputable def c115 : Code := (Tryz.f115.body).getD .skip
theorem body115 : X.body 115 = some (c115, 27, [.tmp 4]) := by kernel_rfl
theorem slot115 : X.slot 115 = fun t => posT [] t 0 := rfl
theorem nslot115 : X.nslots 115 = 0 := rfl
theorem pin115 : X.pin 115 = none := rfl
noncomputable def c116 : Code := (Tryz.f116.body).getD .skip
theorem body116 : X.body 116 = some (c116, 148, []) := by kernel_rfl
theorem slot116 : X.slot 116 = fun t => posT [] t 0 := rfl
theorem nslot116 : X.nslots 116 = 0 := rfl
theorem pin116 : X.pin 116 = none := rfl
theorem plan116_17 : X.plan 116 17 = [(0, [], []), (1, [], []), (2, [], []), (3, [], []), (4, [], []), (5, [], []), (6, [], []), (7, [], []), (8, [], []), (9, [], []), (10, [], []), (11, [], []), (12, [], []), (13, [], []), (14, [], []), (15, [], []), (16, [], [])] := by kernel_rfl
noncomputable def c117 : Code := (Tryz.f117.body).getD .skip
theorem body117 : X.body 117 = some (c117, 8, [.tmp 2]) := by kernel_rfl
theorem slot117 : X.slot 117 = fun t => posT [] t 0 := rfl
theorem nslot117 : X.nslots 117 = 0 := rfl
theorem pin117 : X.pin 117 = none := rfl
noncomputable def c119 : Code := (Tryz.f119.body).getD .skip
theorem body119 : X.body 119 = some (c119, 45, [.tmp 4]) := by kernel_rfl
theorem slot119 : X.slot 119 = fun t => posT [2, 3] t 0 := rfl
theorem nslot119 : X.nslots 119 = 2 := rfl
theorem pin119 : X.pin 119 = none := rfl
noncomputable def c122 : Code := (Tryz.f122.body).getD .skip
theorem body122 : X.body 122 = some (c122, 53, []) := by kernel_rfl
theorem slot122 : X.slot 122 = fun t => posT [] t 0 := rfl
theorem nslot122 : X.nslots 122 = 0 := rfl
theorem pin122 : X.pin 122 = none := rfl
theorem plan122_4 : X.plan 122 4 = [(0, [], []), (1, [], []), (2, [], []), (3, [], []), (4, [], []), (5, [], []), (6, [], []), (7, [], []), (8, [], []), (9, [], []), (10, [], []), (11, [], []), (12, [], []), (13, [], []), (14, [], []), (15, [], []), (16, [], [])] := by kernel_rfl
theorem plan122_6 : X.plan 122 6 = [(0, [], []), (1, [], []), (2, [], []), (3, [], []), (4, [], []), (5, [], []), (6, [], []), (7, [], []), (8, [], []), (9, [], []), (10, [], []), (11, [], []), (12, [], []), (13, [], []), (14, [], []), (15, [], []), (16, [], []), (17, [], [])] := by kernel_rfl
noncomputable def c123 : Code := (Tryz.f123.body).getD .skip
theorem body123 : X.body 123 = some (c123, 60, []) := by kernel_rfl
theorem slot123 : X.slot 123 = fun t => posT [] t 0 := rfl
theorem nslot123 : X.nslots 123 = 0 := rfl
theorem pin123 : X.pin 123 = none := rfl
theorem plan123_10 : X.plan 123 10 = [(0, [], []), (1, [], []), (2, [], []), (3, [], []), (4, [], []), (5, [], []), (6, [], []), (7, [], []), (8, [], []), (9, [], []), (10, [], []), (11, [], []), (12, [], []), (13, [], []), (14, [], []), (15, [], []), (16, [], []), (17, [], []), (18, [], []), (19, [], [])] := by kernel_rfl
noncomputable def c124 : Code := (Tryz.f124.body).getD .skip
theorem body124 : X.body 124 = some (c124, 67, []) := by kernel_rfl
theorem slot124 : X.slot 124 = fun t => posT [] t 0 := rfl
theorem nslot124 : X.nslots 124 = 0 := rfl
theorem pin124 : X.pin 124 = none := rfl
theorem plan124_10 : X.plan 124 10 = [(0, [], []), (1, [], []), (2, [], []), (3, [], []), (4, [], []), (5, [], []), (6, [], []), (7, [], []), (8, [], []), (9, [], []), (10, [], []), (11, [], []), (12, [], []), (13, [], []), (14, [], []), (15, [], []), (16, [], []), (17, [], []), (18, [], []), (19, [], [])] := by kernel_rfl
noncomputable def c125 : Code := (Tryz.f125.body).getD .skip
theorem body125 : X.body 125 = some (c125, 63, [.tmp 8, .tmp 9]) := by kernel_rfl
theorem slot125 : X.slot 125 = fun t => posT [] t 0 := rfl
theorem nslot125 : X.nslots 125 = 0 := rfl
theorem pin125 : X.pin 125 = none := rfl
noncomputable def c126 : Code := (Tryz.f126.body).getD .skip
theorem body126 : X.body 126 = some (c126, 34, []) := by kernel_rfl
theorem slot126 : X.slot 126 = fun t => posT [] t 0 := rfl
theorem nslot126 : X.nslots 126 = 0 := rfl
theorem pin126 : X.pin 126 = none := rfl
theorem plan126_3 : X.plan 126 3 = [(0, [], []), (1, [], []), (2, [], []), (3, [], []), (4, [], []), (5, [], []), (6, [], []), (7, [], []), (8, [], []), (9, [], []), (10, [], []), (11, [], []), (12, [], []), (13, [], []), (14, [], []), (15, [], [])] := by kernel_rfl
noncomputable def c127 : Code := (Tryz.f127.body).getD .skip
theorem body127 : X.body 127 = some (c127, 141, [.tmp 8]) := by kernel_rfl
theorem slot127 : X.slot 127 = fun t => posT [] t 0 := rfl
theorem nslot127 : X.nslots 127 = 0 := rfl
theorem pin127 : X.pin 127 = none := rfl
theorem plan127_5 : X.plan 127 5 = [(0, [], []), (1, [], []), (2, [], []), (3, [], []), (4, [], []), (5, [], []), (6, [], []), (7, [], []), (8, [], []), (9, [], []), (10, [], []), (11, [], []), (12, [], []), (13, [], []), (14, [], []), (15, [], []), (16, [], []), (17, [], [])] := by kernel_rfl
theorem plan127_11 : X.plan 127 11 = [(0, [], []), (1, [], []), (2, [], []), (3, [], []), (4, [], []), (5, [], []), (6, [], []), (7, [], []), (8, [], []), (9, [], []), (10, [], []), (11, [], []), (12, [], []), (13, [], []), (14, [], []), (15, [], []), (16, [], []), (17, [], [])] := by kernel_rfl
theorem plan127_16 : X.plan 127 16 = [(0, [], []), (1, [], []), (2, [], []), (3, [], []), (4, [], []), (5, [], []), (6, [], []), (7, [], []), (8, [], []), (9, [], []), (10, [], []), (11, [], []), (12, [], [])] := by kernel_rfl
theorem plan127_17 : X.plan 127 17 = [(0, [], []), (1, [], []), (2, [], []), (3, [], []), (4, [], []), (5, [], []), (6, [], []), (7, [], []), (8, [], []), (9, [], []), (10, [], []), (11, [], []), (12, [], []), (13, [], []), (14, [], []), (15, [], []), (16, [], []), (17, [], [])] := by kernel_rfl
theorem plan127_22 : X.plan 127 22 = [(0, [], []), (1, [], []), (2, [], []), (3, [], []), (4, [], []), (5, [], []), (6, [], []), (7, [], []), (8, [], []), (9, [], []), (10, [], []), (11, [], []), (12, [], [])] := by kernel_rfl
theorem plan127_23 : X.plan 127 23 = [(0, [], []), (1, [], []), (2, [], []), (3, [], []), (4, [], []), (5, [], []), (6, [], []), (7, [], []), (8, [], []), (9, [], []), (10, [], []), (11, [], []), (12, [], []), (13, [], []), (14, [], []), (15, [], []), (16, [], []), (17, [], [])] := by kernel_rfl
noncomputable def c128 : Code := (Tryz.f128.body).getD .skip
theorem body128 : X.body 128 = some (c128, 90, [.tmp 10]) := by kernel_rfl
theorem slot128 : X.slot 128 = fun t => posT [] t 0 := rfl
theorem nslot128 : X.nslots 128 = 0 := rfl
theorem pin128 : X.pin 128 = none := rfl
theorem plan128_1 : X.plan 128 1 = [(0, [], []), (1, [], []), (2, [], []), (3, [], []), (4, [], []), (5, [], []), (6, [], []), (7, [], []), (8, [], []), (9, [], []), (10, [], []), (11, [], []), (12, [], []), (13, [], []), (14, [], []), (15, [], [])] := by kernel_rfl
theorem plan128_3 : X.plan 128 3 = [(0, [], []), (1, [], []), (2, [], []), (3, [], []), (4, [], []), (5, [], []), (6, [], []), (7, [], []), (8, [], []), (9, [], []), (10, [], []), (11, [], []), (12, [], []), (13, [], []), (14, [], []), (15, [], []), (16, [], [])] := by kernel_rfl
theorem plan128_5 : X.plan 128 5 = [(0, [], []), (1, [], []), (2, [], []), (3, [], []), (4, [], []), (5, [], []), (6, [], []), (7, [], []), (8, [], []), (9, [], []), (10, [], []), (11, [], []), (12, [], []), (13, [], []), (14, [], []), (15, [], [])] := by kernel_rfl
theorem plan128_8 : X.plan 128 8 = [(0, [], []), (1, [], []), (2, [], []), (3, [], []), (4, [], []), (5, [], []), (6, [], []), (7, [], []), (8, [], []), (9, [], []), (10, [], []), (11, [], []), (12, [], []), (13, [], []), (14, [], []), (15, [], [])] := by kernel_rfl
noncomputable def c129 : Code := (Tryz.f129.body).getD .skip
theorem body129 : X.body 129 = some (c129, 178, [.tmp 10, .tmp 11]) := by kernel_rfl
theorem slot129 : X.slot 129 = fun t => posT [] t 0 := rfl
theorem nslot129 : X.nslots 129 = 0 := rfl
theorem pin129 : X.pin 129 = none := rfl
theorem plan129_1 : X.plan 129 1 = [(0, [], []), (1, [], []), (2, [], []), (3, [], []), (4, [], []), (5, [], []), (6, [], []), (7, [], []), (8, [], []), (9, [], []), (10, [], []), (11, [], []), (12, [], []), (13, [], []), (14, [], []), (15, [], [])] := by kernel_rfl
theorem plan129_3 : X.plan 129 3 = [(0, [], []), (1, [], []), (2, [], []), (3, [], []), (4, [], []), (5, [], []), (6, [], []), (7, [], []), (8, [], []), (9, [], []), (10, [], []), (11, [], []), (12, [], []), (13, [], []), (14, [], []), (15, [], [])] := by kernel_rfl
theorem plan129_5 : X.plan 129 5 = [(0, [], []), (1, [], []), (2, [], []), (3, [], []), (4, [], []), (5, [], []), (6, [], []), (7, [], []), (8, [], []), (9, [], []), (10, [], []), (11, [], []), (12, [], []), (13, [], []), (14, [], []), (15, [], []), (16, [], [])] := by kernel_rfl
theorem plan129_8 : X.plan 129 8 = [(0, [], []), (1, [], []), (2, [], []), (3, [], []), (4, [], []), (5, [], []), (6, [], []), (7, [], []), (8, [], []), (9, [], []), (10, [], []), (11, [], []), (12, [], []), (13, [], []), (14, [], []), (15, [], [])] := by kernel_rfl
theorem plan129_10 : X.plan 129 10 = [(0, [], []), (1, [], []), (2, [], []), (3, [], []), (4, [], []), (5, [], []), (6, [], []), (7, [], []), (8, [], []), (9, [], []), (10, [], []), (11, [], []), (12, [], []), (13, [], []), (14, [], []), (15, [], [])] := by kernel_rfl
theorem plan129_13 : X.plan 129 13 = [(0, [], []), (1, [], []), (2, [], []), (3, [], []), (4, [], []), (5, [], []), (6, [], []), (7, [], []), (8, [], []), (9, [], []), (10, [], []), (11, [], []), (12, [], []), (13, [], []), (14, [], []), (15, [], [])] := by kernel_rfl
theorem plan129_15 : X.plan 129 15 = [(0, [], []), (1, [], []), (2, [], []), (3, [], []), (4, [], []), (5, [], []), (6, [], []), (7, [], []), (8, [], []), (9, [], []), (10, [], []), (11, [], []), (12, [], []), (13, [], []), (14, [], []), (15, [], []), (16, [], [])] := by kernel_rfl
theorem plan129_18 : X.plan 129 18 = [(0, [], []), (1, [], []), (2, [], []), (3, [], []), (4, [], []), (5, [], []), (6, [], []), (7, [], []), (8, [], []), (9, [], []), (10, [], []), (11, [], []), (12, [], []), (13, [], []), (14, [], []), (15, [], [])] := by kernel_rfl
theorem plan129_21 : X.plan 129 21 = [(0, [], []), (1, [], []), (2, [], []), (3, [], []), (4, [], []), (5, [], []), (6, [], []), (7, [], []), (8, [], []), (9, [], []), (10, [], []), (11, [], []), (12, [], []), (13, [], []), (14, [], []), (15, [], [])] := by kernel_rfl
noncomputable def c131 : Code := (Tryz.f131.body).getD .skip
theorem body131 : X.body 131 = some (c131, 25, [.tmp 2]) := by kernel_rfl
theorem slot131 : X.slot 131 = fun t => posT [] t 0 := rfl
theorem nslot131 : X.nslots 131 = 0 := rfl
theorem pin131 : X.pin 131 = none := rfl
noncomputable def c132 : Code := (Tryz.f132.body).getD .skip
theorem body132 : X.body 132 = some (c132, 26, [.tmp 4]) := by kernel_rfl
theorem slot132 : X.slot 132 = fun t => posT [] t 0 := rfl
theorem nslot132 : X.nslots 132 = 0 := rfl
theorem pin132 : X.pin 132 = none := rfl
theorem plan132_6 : X.plan 132 6 = [(0, [], []), (1, [], []), (2, [], []), (3, [], []), (4, [], []), (5, [], []), (6, [], []), (7, [], []), (8, [], [])] := by kernel_rfl
noncomputable def c133 : Code := (Tryz.f133.body).getD .skip
theorem body133 : X.body 133 = some (c133, 82, []) := by kernel_rfl
theorem slot133 : X.slot 133 = fun t => posT [] t 0 := rfl
theorem nslot133 : X.nslots 133 = 0 := rfl
theorem pin133 : X.pin 133 = none := rfl
theorem plan133_3 : X.plan 133 3 = [(0, [], []), (1, [], []), (2, [], []), (3, [], []), (4, [], []), (5, [], []), (6, [], []), (7, [], []), (8, [], []), (9, [], []), (10, [], []), (11, [], []), (12, [], []), (13, [], []), (14, [], []), (15, [], []), (16, [], []), (17, [], []), (18, [], []), (19, [], []), (20, [], []), (21, [], [])] := by kernel_rfl
theorem plan133_5 : X.plan 133 5 = [(0, [], []), (1, [], []), (2, [], []), (3, [], []), (4, [], []), (5, [], []), (6, [], []), (7, [], []), (8, [], []), (9, [], []), (10, [], []), (11, [], []), (12, [], []), (13, [], []), (14, [], []), (15, [], [])] := by kernel_rfl
theorem plan133_6 : X.plan 133 6 = [(0, [], []), (1, [], []), (2, [], []), (3, [], []), (4, [], []), (5, [], []), (6, [], []), (7, [], []), (8, [], []), (9, [], []), (10, [], []), (11, [], []), (12, [], []), (13, [], []), (14, [], []), (15, [], []), (16, [], []), (17, [], []), (18, [], []), (19, [], []), (20, [], []), (21, [], []), (22, [], []), (23, [], [])] := by kernel_rfl
noncomputable def c134 : Code := (Tryz.f134.body).getD .skip
theorem body134 : X.body 134 = some (c134, 7, [.tmp 2]) := by kernel_rfl
theorem slot134 : X.slot 134 = fun t => posT [] t 0 := rfl
theorem nslot134 : X.nslots 134 = 0 := rfl
theorem pin134 : X.pin 134 = none := rfl
noncomputable def c135 : Code := (Tryz.f135.body).getD .skip
theorem body135 : X.body 135 = some (c135, 33, [.tmp 2]) := by kernel_rfl
theorem slot135 : X.slot 135 = fun t => posT [] t 0 := rfl
theorem nslot135 : X.nslots 135 = 0 := rfl
theorem pin135 : X.pin 135 = none := rfl
theorem plan135_1 : X.plan 135 1 = [(0, [], []), (1, [], []), (2, [], []), (3, [], []), (4, [], []), (5, [], []), (6, [], []), (7, [], []), (8, [], []), (9, [], [])] := by kernel_rfl
theorem plan135_2 : X.plan 135 2 = [(0, [], []), (1, [], []), (2, [], []), (3, [], []), (4, [], []), (5, [], []), (6, [], []), (7, [], []), (8, [], []), (9, [], [])] := by kernel_rfl
theorem plan135_3 : X.plan 135 3 = [(0, [], []), (1, [], []), (2, [], []), (3, [], []), (4, [], []), (5, [], []), (6, [], []), (7, [], []), (8, [], []), (9, [], [])] := by kernel_rfl
noncomputable def c136 : Code := (Tryz.f136.body).getD .skip
theorem body136 : X.body 136 = some (c136, 18, [.tmp 8]) := by kernel_rfl
theorem slot136 : X.slot 136 = fun t => posT [] t 0 := rfl
theorem nslot136 : X.nslots 136 = 0 := rfl
theorem pin136 : X.pin 136 = none := rfl
noncomputable def c137 : Code := (Tryz.f137.body).getD .skip
theorem body137 : X.body 137 = some (c137, 41, [.tmp 12]) := by kernel_rfl
theorem slot137 : X.slot 137 = fun t => posT [] t 0 := rfl
theorem nslot137 : X.nslots 137 = 0 := rfl
theorem pin137 : X.pin 137 = none := rfl
noncomputable def c138 : Code := (Tryz.f138.body).getD .skip
theorem body138 : X.body 138 = some (c138, 32, [.tmp 10, .tmp 11]) := by kernel_rfl
theorem slot138 : X.slot 138 = fun t => posT [] t 0 := rfl
theorem nslot138 : X.nslots 138 = 0 := rfl
theorem pin138 : X.pin 138 = none := rfl
theorem plan138_1 : X.plan 138 1 = [(0, [], []), (1, [], []), (2, [], []), (3, [], []), (4, [], []), (5, [], []), (6, [], []), (7, [], []), (8, [], []), (9, [], []), (10, [], [])] := by kernel_rfl
end Go.Ev
namespace Go.Ev
theorem ty3 : X.ty 3 = ⟨(.int .i64), 1, 8, [(.int .i64 0)], true⟩ := by kernel_rfl
theorem ty4 : X.ty 4 = ⟨.bool, 1, 1, [(.bool false)], true⟩ := by kernel_rfl
theorem ty5 : X.ty 5 = ⟨(.int .u8), 1, 1, [(.int .u8 0)], true⟩ := by kernel_rfl
theorem ty9 : X.ty 9 = ⟨.str, 1, 16, [(.str ⟨#[]⟩)], true⟩ := by kernel_rfl
theorem ty22 : X.ty 22 = ⟨(.slice 32), 1, 24, [(.sl .nil 0 0 0)], true⟩ := by kernel_rfl
theorem ty23 : X.ty 23 = ⟨(.struct [(0, 3), (1, 3)]), 2, 16, [(.int .i64 0), (.int .i64 0)], true⟩ := by kernel_rfl
theorem ty24 : X.ty 24 = ⟨(.struct [(0, 3), (1, 3)]), 2, 16, [(.int .i64 0), (.int .i64 0)], true⟩ := by kernel_rfl
theorem ty25 : X.ty 25 = ⟨(.struct [(0, 3), (1, 3)]), 2, 16, [(.int .i64 0), (.int .i64 0)], true⟩ := by kernel_rfl
theorem ty26 : X.ty 26 = ⟨(.struct [(0, 3), (1, 3)]), 2, 16, [(.int .i64 0), (.int .i64 0)], true⟩ := by kernel_rfl
theorem ty27 : X.ty 27 = ⟨(.slice 9), 1, 24, [(.sl .nil 0 0 0)], true⟩ := by kernel_rfl
theorem ty28 : X.ty 28 = ⟨(.struct [(0, 3), (1, 3), (2, 3), (3, 3), (4, 3), (5, 27)]), 6, 64, [(.int .i64 0), (.int .i64 0), (.int .i64 0), (.int .i64 0), (.int .i64 0), (.sl .nil 0 0 0)], true⟩ := by kernel_rfl
theorem ty29 : X.ty 29 = ⟨(.struct [(0, 3), (1, 3), (2, 3), (3, 3), (4, 3), (5, 27)]), 6, 64, [(.int .i64 0), (.int .i64 0), (.int .i64 0), (.int .i64 0), (.int .i64 0), (.sl .nil 0 0 0)], true⟩ := by kernel_rfl
theorem ty30 : X.ty 30 = ⟨(.slice 24), 1, 24, [(.sl .nil 0 0 0)], true⟩ := by kernel_rfl
theorem ty31 : X.ty 31 = ⟨(.struct [(0, 24), (2, 26), (4, 26), (6, 3), (7, 4), (8, 29), (14, 3), (15, 30)]), 16, 160, [(.int .i64 0), (.int .i64 0), (.int .i64 0), (.int .i64 0), (.int .i64 0), (.int .i64 0), (.int .i64 0), (.bool false), (.int .i64 0), (.int .i64 0), (.int .i64 0), (.int .i64 0), (.int .i64 0), (.sl .nil 0 0 0), (.int .i64 0), (.sl .nil 0 0 0)], true⟩ := by kernel_rfl
theorem ty32 : X.ty 32 = ⟨(.struct [(0, 24), (2, 26), (4, 26), (6, 3), (7, 4), (8, 29), (14, 3), (15, 30)]), 16, 160, [(.int .i64 0), (.int .i64 0), (.int .i64 0), (.int .i64 0), (.int .i64 0), (.int .i64 0), (.int .i64 0), (.bool false), (.int .i64 0), (.int .i64 0), (.int .i64 0), (.int .i64 0), (.int .i64 0), (.sl .nil 0 0 0), (.int .i64 0), (.sl .nil 0 0 0)], true⟩ := by kernel_rfl
theorem ty33 : X.ty 33 = ⟨(.slice 191), 1, 24, [(.sl .nil 0 0 0)], true⟩ := by kernel_rfl
theorem ty34 : X.ty 34 = ⟨(.struct [(0, 3), (1, 3), (2, 3), (3, 3), (4, 32), (20, 4), (21, 3), (22, 3), (23, 3), (24, 3), (25, 3), (26, 33), (27, 9)]), 28, 280, [(.int .i64 0), (.int .i64 0), (.int .i64 0), (.int .i64 0), (.int .i64 0), (.int .i64 0), (.int .i64 0), (.int .i64 0), (.int .i64 0), (.int .i64 0), (.int .i64 0), (.bool false), (.int .i64 0), (.int .i64 0), (.int .i64 0), (.int .i64 0), (.int .i64 0), (.sl .nil 0 0 0), (.int .i64 0), (.sl .nil 0 0 0), (.bool false), (.int .i64 0), (.int .i64 0), (.int .i64 0), (.int .i64 0), (.int .i64 0), (.sl .nil 0 0 0), (.str ⟨#[]⟩)], true⟩ := by kernel_rfl
theorem ty35 : X.ty 35 = ⟨(.struct [(0, 3), (1, 3), (2, 3), (3, 3), (4, 32), (20, 4), (21, 3), (22, 3), (23, 3), (24, 3), (25, 3), (26, 33), (27, 9)]), 28, 280, [(.int .i64 0), (.int .i64 0), (.int .i64 0), (.int .i64 0), (.int .i64 0), (.int .i64 0), (.int .i64 0), (.int .i64 0), (.int .i64 0), (.int .i64 0), (.int .i64 0), (.bool false), (.int .i64 0), (.int .i64 0), (.int .i64 0), (.int .i64 0), (.int .i64 0), (.sl .nil 0 0 0), (.int .i64 0), (.sl .nil 0 0 0), (.bool false), (.int .i64 0), (.int .i64 0), (.int .i64 0), (.int .i64 0), (.int .i64 0), (.sl .nil 0 0 0), (.str ⟨#[]⟩)], true⟩ := by kernel_rfl
theorem ty39 : X.ty 39 = ⟨(.ptr 96), 1, 8, [.nilp], true⟩ := by kernel_rfl
theorem ty40 : X.ty 40 = ⟨(.int .i64), 1, 8, [(.int .i64 0)], true⟩ := by kernel_rfl
theorem ty43 : X.ty 43 = ⟨(.slice 3), 1, 24, [(.sl .nil 0 0 0)], true⟩ := by kernel_rfl
theorem ty44 : X.ty 44 = ⟨(.slice 35), 1, 24, [(.sl .nil 0 0 0)], true⟩ := by kernel_rfl
theorem ty45 : X.ty 45 = ⟨(.struct [(0, 22), (1, 44)]), 2, 48, [(.sl .nil 0 0 0), (.sl .nil 0 0 0)], true⟩ := by kernel_rfl
theorem ty46 : X.ty 46 = ⟨(.struct [(0, 22), (1, 44)]), 2, 48, [(.sl .nil 0 0 0), (.sl .nil 0 0 0)], true⟩ := by kernel_rfl
theorem ty82 : X.ty 82 = ⟨(.int .u64), 1, 8, [(.int .u64 0)], true⟩ := by kernel_rfl
theorem ty91 : X.ty 91 = ⟨(.ptr 125), 1, 8, [.nilp], true⟩ := by kernel_rfl
theorem ty93 : X.ty 93 = ⟨(.map 24 109), 1, 8, [.nilm], true⟩ := by kernel_rfl
theorem ty94 : X.ty 94 = ⟨(.map 24 3), 1, 8, [.nilm], true⟩ := by kernel_rfl
theorem ty95 : X.ty 95 = ⟨(.struct [(0, 3), (1, 3), (2, 43), (3, 91), (4, 93), (5, 94), (6, 94), (7, 3), (8, 46)]), 10, 128, [(.int .i64 0), (.int .i64 0), (.sl .nil 0 0 0), .nilp, .nilm, .nilm, .nilm, (.int .i64 0), (.sl .nil 0 0 0), (.sl .nil 0 0 0)], true⟩ := by kernel_rfl
theorem ty96 : X.ty 96 = ⟨(.struct [(0, 3), (1, 3), (2, 43), (3, 91), (4, 93), (5, 94), (6, 94), (7, 3), (8, 46)]), 10, 128, [(.int .i64 0), (.int .i64 0), (.sl .nil 0 0 0), .nilp, .nilm, .nilm, .nilm, (.int .i64 0), (.sl .nil 0 0 0), (.sl .nil 0 0 0)], true⟩ := by kernel_rfl
theorem ty109 : X.ty 109 = ⟨(.ptr 113), 1, 8, [.nilp], true⟩ := by kernel_rfl
theorem ty110 : X.ty 110 = ⟨(.arr 7 4), 7, 7, [(.bool false), (.bool false), (.bool false), (.bool false), (.bool false), (.bool false), (.bool false)], true⟩ := by kernel_rfl
theorem ty111 : X.ty 111 = ⟨(.slice 133), 1, 24, [(.sl .nil 0 0 0)], true⟩ := by kernel_rfl
theorem ty112 : X.ty 112 = ⟨(.struct [(0, 3), (1, 26), (3, 32), (19, 3), (20, 30), (21, 4), (22, 110), (29, 111), (30, 3)]), 31, 256, [(.int .i64 0), (.int .i64 0), (.int .i64 0), (.int .i64 0), (.int .i64 0), (.int .i64 0), (.int .i64 0), (.int .i64 0), (.int .i64 0), (.int .i64 0), (.bool false), (.int .i64 0), (.int .i64 0), (.int .i64 0), (.int .i64 0), (.int .i64 0), (.sl .nil 0 0 0), (.int .i64 0), (.sl .nil 0 0 0), (.int .i64 0), (.sl .nil 0 0 0), (.bool false), (.bool false), (.bool false), (.bool false), (.bool false), (.bool false), (.bool false), (.bool false), (.sl .nil 0 0 0), (.int .i64 0)], true⟩ := by kernel_rfl
theorem ty113 : X.ty 113 = ⟨(.struct [(0, 3), (1, 26), (3, 32), (19, 3), (20, 30), (21, 4), (22, 110), (29, 111), (30, 3)]), 31, 256, [(.int .i64 0), (.int .i64 0), (.int .i64 0), (.int .i64 0), (.int .i64 0), (.int .i64 0), (.int .i64 0), (.int .i64 0), (.int .i64 0), (.int .i64 0), (.bool false), (.int .i64 0), (.int .i64 0), (.int .i64 0), (.int .i64 0), (.int .i64 0), (.sl .nil 0 0 0), (.int .i64 0), (.sl .nil 0 0 0), (.int .i64 0), (.sl .nil 0 0 0), (.bool false), (.bool false), (.bool false), (.bool false), (.bool false), (.bool false), (.bool false), (.bool false), (.sl .nil 0 0 0), (.int .i64 0)], true⟩ := by kernel_rfl
theorem ty118 : X.ty 118 = ⟨.func, 1, 8, [.nilFn], true⟩ := by kernel_rfl
theorem ty123 : X.ty 123 = ⟨(.map 24 32), 1, 8, [.nilm], true⟩ := by kernel_rfl
theorem ty124 : X.ty 124 = ⟨(.struct [(0, 123)]), 1, 8, [.nilm], true⟩ := by kernel_rfl
theorem ty125 : X.ty 125 = ⟨(.struct [(0, 123)]), 1, 8, [.nilm], true⟩ := by kernel_rfl
theorem ty132 : X.ty 132 = ⟨(.struct [(0, 3), (1, 32)]), 17, 168, [(.int .i64 0), (.int .i64 0), (.int .i64 0), (.int .i64 0), (.int .i64 0), (.int .i64 0), (.int .i64 0), (.int .i64 0), (.bool false), (.int .i64 0), (.int .i64 0), (.int .i64 0), (.int .i64 0), (.int .i64 0), (.sl .nil 0 0 0), (.int .i64 0), (.sl .nil 0 0 0)], true⟩ := by kernel_rfl
theorem ty133 : X.ty 133 = ⟨(.struct [(0, 3), (1, 32)]), 17, 168, [(.int .i64 0), (.int .i64 0), (.int .i64 0), (.int .i64 0), (.int .i64 0), (.int .i64 0), (.int .i64 0), (.int .i64 0), (.bool false), (.int .i64 0), (.int .i64 0), (.int .i64 0), (.int .i64 0), (.int .i64 0), (.sl .nil 0 0 0), (.int .i64 0), (.sl .nil 0 0 0)], true⟩ := by kernel_rfl
theorem ty138 : X.ty 138 = ⟨(.slice 30), 1, 24, [(.sl .nil 0 0 0)], true⟩ := by kernel_rfl
theorem ty141 : X.ty 141 = ⟨.func, 1, 8, [.nilFn], true⟩ := by kernel_rfl
theorem ty155 : X.ty 155 = ⟨(.int .i64), 1, 8, [(.int .i64 0)], true⟩ := by kernel_rfl
theorem ty163 : X.ty 163 = ⟨(.int .u32), 1, 4, [(.int .u32 0)], true⟩ := by kernel_rfl
theorem ty165 : X.ty 165 = ⟨(.int .u64), 1, 8, [(.int .u64 0)], true⟩ := by kernel_rfl
theorem ty167 : X.ty 167 = ⟨(.int .u64), 1, 8, [(.int .u64 0)], true⟩ := by kernel_rfl
theorem ty171 : X.ty 171 = ⟨(.ptr 3), 1, 8, [.nilp], true⟩ := by kernel_rfl
theorem ty190 : X.ty 190 = ⟨(.struct [(0, 3), (1, 3), (2, 9)]), 3, 32, [(.int .i64 0), (.int .i64 0), (.str ⟨#[]⟩)], true⟩ := by kernel_rfl
theorem ty191 : X.ty 191 = ⟨(.struct [(0, 3), (1, 3), (2, 9)]), 3, 32, [(.int .i64 0), (.int .i64 0), (.str ⟨#[]⟩)], true⟩ := by kernel_rfl
end Go.Ev
set_option maxRecDepth 100000
namespace Go.Ev
open Go.Proofs
def In64 (n : Int) : Prop := -9223372036854775808 <= n /\ n <= 9223372036854775807
theorem in64_of {i : Int} (h : (Lit.int .i64 i).wf = true) : In64 i := by
  simp only [Lit.wf,IntKind.min,IntKind.max,IntKind.signed,IntKind.bits] at h
  simp at h
  unfold In64
  omega
theorem fits_int {h : Heap} {d : Nat} {cs : List V} (hf : Fits X.ty h (d + 1) 3 cs) : ∃ i, cs = [.int .i64 i] /\ In64 i := by
  unfold Fits at hf
  rw [ty3] at hf
  obtain ⟨i, rfl, h1⟩ := hf
  exact ⟨i, rfl, in64_of h1⟩
def Strs (h : Heap) (v : V) (l : List ByteArray) : Prop :=
  (∀ s ∈ l, s.size <= 9223372036854775807) /\ l.length <= 9223372036854775807 /\ ((v = .sl .nil 0 0 0 /\ l = []) \/ (v = .sl .any 0 0 1 /\ l = []) \/ ∃ b cap full, v = .sl (.at b 0 0) l.length cap 0 /\ l.length <= cap /\ cap <= 9223372036854775807 /\ h[b]? = some (.cells 0 false full) /\ full.length = cap /\ ∀ (i : Nat) (s : ByteArray), l[i]? = some s -> full[i]? = some (V.str s))
theorem fits_strs {h : Heap} {d : Nat} {cs : List V} (hf : Fits X.ty h (d + 2) 27 cs) : ∃ v l, cs = [v] /\ Strs h v l := by
  unfold Fits at hf
  rw [ty27] at hf
  have hmax : maxLen = 9223372036854775807 := by decide
  rw [hmax] at hf
  rcases hf with rfl | rfl | ⟨b, len, cap, full, rfl, h1, h2, h3, h4, h5, h6⟩
  · exact ⟨_, [], rfl, by simp, by decide, .inl ⟨rfl, rfl⟩⟩
  · exact ⟨_, [], rfl, by simp, by decide, .inr (.inl ⟨rfl, rfl⟩)⟩
  · have hsz : (X.ty 9).size = 1 := by rw [ty9]
    rw [hsz] at h5 h6
    have hs : ∀ i, i < cap -> ∃ s : ByteArray, full[i]? = some (V.str s) /\ s.size <= 9223372036854775807 := by
      intro i hi
      have h7 := h6 i hi
      unfold Fits at h7
      rw [ty9] at h7
      rw [hmax] at h7
      obtain ⟨s, h8, h9⟩ := h7
      refine ⟨s, ?_, h9⟩
      have := congrArg (fun l => l[0]?) h8
      simpa using this
    let g : Nat -> ByteArray := fun i => match full[i]? with | some (.str s) => s | _ => .empty
    have hg : ∀ i, i < cap -> full[i]? = some (V.str (g i)) /\ (g i).size <= 9223372036854775807 := by
      intro i hi
      obtain ⟨s, h7, h8⟩ := hs i hi
      simp only [g,h7]
      exact ⟨trivial, h8⟩
    refine ⟨_, (List.range len).map g, rfl, ?_, by rw [List.length_map, List.length_range]; omega, .inr (.inr ⟨b, cap, full, by simp, by simpa using h2, h3, h4, by simpa using h5, ?_⟩)⟩
    · intro s hm
      obtain ⟨i, hi, rfl⟩ := List.mem_map.1 hm
      have := List.mem_range.1 hi
      exact (hg i (by omega)).2
    · intro i s hi
      rw [List.getElem?_map] at hi
      cases hr : (List.range len)[i]? with
      | none => rw [hr] at hi; cases hi
      | some j =>
        rw [hr] at hi
        have hj : i < len := by have := (List.getElem?_eq_some_iff.1 hr).1; simpa using this
        have : j = i := by rw [List.getElem?_range hj] at hr; exact (Option.some.inj hr).symm
        subst this
        simp only [Option.map_some,Option.some.injEq] at hi
        subst hi
        exact (hg j (by omega)).1
theorem Strs.sl {h : Heap} {v : V} {l : List ByteArray} (hs : Strs h v l) : ∃ a len cap z, v = .sl a len cap z := by
  obtain ⟨_, _, ⟨rfl, _⟩ | ⟨rfl, _⟩ | ⟨b, cap, full, rfl, _⟩⟩ := hs
  · exact ⟨_, _, _, _, rfl⟩
  · exact ⟨_, _, _, _, rfl⟩
  · exact ⟨_, _, _, _, rfl⟩
theorem fits_cmd {h : Heap} {d : Nat} {cs : List V} (hf : Fits X.ty h (d + 3) 29 cs) :
    ∃ o c q f t v l, cs = [.int .i64 o, .int .i64 c, .int .i64 q, .int .i64 f, .int .i64 t, v] /\ In64 o /\ In64 c /\ In64 q /\ In64 f /\ In64 t /\ Strs h v l := by
  unfold Fits at hf
  rw [ty29] at hf
  obtain ⟨hl, hf⟩ := hf
  match cs, hl with
  | [c0, c1, c2, c3, c4, c5], _ =>
    obtain ⟨o, h0, i0⟩ := fits_int (hf (0, 3) (by simp))
    obtain ⟨c, h1, i1⟩ := fits_int (hf (1, 3) (by simp))
    obtain ⟨q, h2, i2⟩ := fits_int (hf (2, 3) (by simp))
    obtain ⟨f, h3, i3⟩ := fits_int (hf (3, 3) (by simp))
    obtain ⟨t, h4, i4⟩ := fits_int (hf (4, 3) (by simp))
    obtain ⟨v, l, h5, i5⟩ := fits_strs (hf (5, 27) (by simp))
    simp [ty3] at h0 h1 h2 h3 h4
    simp [ty27] at h5
    subst h0 h1 h2 h3 h4 h5
    exact ⟨o, c, q, f, t, _, l, rfl, i0, i1, i2, i3, i4, i5⟩
end Go.Ev
namespace Go.Ev
theorem G70 : (type_of% @ty3) /\ (type_of% @ty43) /\ (type_of% @slot70) := ⟨@ty3, @ty43, @slot70⟩
theorem G39 : (type_of% @ty3) /\ (type_of% @ty43) /\ (type_of% @slot39) := ⟨@ty3, @ty43, @slot39⟩
theorem G38 : (type_of% @ty3) /\ (type_of% @ty43) /\ (type_of% @slot38) := ⟨@ty3, @ty43, @slot38⟩
theorem G82 : (type_of% @ty3) /\ (type_of% @ty23) /\ (type_of% @ty24) /\ (type_of% @ty30) /\ (type_of% @slot82) /\ (type_of% @plan82_6) := ⟨@ty3, @ty23, @ty24, @ty30, @slot82, @plan82_6⟩
theorem G132 : (type_of% @ty3) /\ (type_of% @ty9) /\ (type_of% @ty27) /\ (type_of% @slot132) /\ (type_of% @plan132_6) := ⟨@ty3, @ty9, @ty27, @slot132, @plan132_6⟩
theorem G31 : (type_of% @ty3) /\ (type_of% @ty9) /\ (type_of% @ty27) /\ (type_of% @ty28) /\ (type_of% @ty29) /\ (type_of% @slot31) /\ (type_of% @plan31_6) := ⟨@ty3, @ty9, @ty27, @ty28, @ty29, @slot31, @plan31_6⟩
theorem G37 : (type_of% @ty3) /\ (type_of% @ty23) /\ (type_of% @ty24) /\ (type_of% @slot37) := ⟨@ty3, @ty23, @ty24, @slot37⟩
theorem G98 : (type_of% @ty3) /\ (type_of% @ty23) /\ (type_of% @ty24) /\ (type_of% @slot98) := ⟨@ty3, @ty23, @ty24, @slot98⟩
theorem G72 : (type_of% @ty3) /\ (type_of% @ty23) /\ (type_of% @ty24) /\ (type_of% @slot72) := ⟨@ty3, @ty23, @ty24, @slot72⟩
theorem G27 : (type_of% @ty3) /\ (type_of% @ty23) /\ (type_of% @ty24) /\ (type_of% @slot27) := ⟨@ty3, @ty23, @ty24, @slot27⟩
theorem G73 : (type_of% @ty3) /\ (type_of% @ty25) /\ (type_of% @ty26) /\ (type_of% @slot73) := ⟨@ty3, @ty25, @ty26, @slot73⟩
theorem G36 : (type_of% @ty3) /\ (type_of% @ty25) /\ (type_of% @ty26) /\ (type_of% @slot36) := ⟨@ty3, @ty25, @ty26, @slot36⟩
theorem G74 : (type_of% @ty3) /\ (type_of% @ty25) /\ (type_of% @ty26) /\ (type_of% @slot74) := ⟨@ty3, @ty25, @ty26, @slot74⟩
theorem G23 : (type_of% @ty3) /\ (type_of% @ty25) /\ (type_of% @ty26) /\ (type_of% @slot23) := ⟨@ty3, @ty25, @ty26, @slot23⟩
theorem G119 : (type_of% @ty3) /\ (type_of% @ty9) /\ (type_of% @ty27) /\ (type_of% @ty28) /\ (type_of% @ty29) /\ (type_of% @slot119) := ⟨@ty3, @ty9, @ty27, @ty28, @ty29, @slot119⟩
theorem G107 : (type_of% @ty3) /\ (type_of% @ty4) /\ (type_of% @ty9) /\ (type_of% @ty23) /\ (type_of% @ty24) /\ (type_of% @ty25) /\ (type_of% @ty26) /\ (type_of% @ty27) /\ (type_of% @ty28) /\ (type_of% @ty29) /\ (type_of% @ty30) /\ (type_of% @ty31) /\ (type_of% @ty32) /\ (type_of% @slot107) := ⟨@ty3, @ty4, @ty9, @ty23, @ty24, @ty25, @ty26, @ty27, @ty28, @ty29, @ty30, @ty31, @ty32, @slot107⟩
theorem G90 : (type_of% @ty3) /\ (type_of% @ty5) /\ (type_of% @ty9) /\ (type_of% @slot90) := ⟨@ty3, @ty5, @ty9, @slot90⟩
theorem G68 : (type_of% @ty3) /\ (type_of% @ty5) /\ (type_of% @ty9) /\ (type_of% @slot68) := ⟨@ty3, @ty5, @ty9, @slot68⟩
theorem G89 : (type_of% @ty4) /\ (type_of% @ty9) /\ (type_of% @slot89) := ⟨@ty4, @ty9, @slot89⟩
theorem G112 : (type_of% @ty3) /\ (type_of% @ty9) /\ (type_of% @ty27) /\ (type_of% @slot112) := ⟨@ty3, @ty9, @ty27, @slot112⟩
theorem G88 : (type_of% @ty3) /\ (type_of% @ty9) /\ (type_of% @ty27) /\ (type_of% @ty118) /\ (type_of% @slot88) := ⟨@ty3, @ty9, @ty27, @ty118, @slot88⟩
theorem G87 : (type_of% @ty3) /\ (type_of% @slot87) := ⟨@ty3, @slot87⟩
theorem G86 : (type_of% @ty3) /\ (type_of% @ty9) /\ (type_of% @ty27) /\ (type_of% @ty28) /\ (type_of% @ty29) /\ (type_of% @slot86) := ⟨@ty3, @ty9, @ty27, @ty28, @ty29, @slot86⟩
theorem G55 : (type_of% @ty3) /\ (type_of% @ty4) /\ (type_of% @ty9) /\ (type_of% @ty27) /\ (type_of% @ty28) /\ (type_of% @ty29) /\ (type_of% @ty118) /\ (type_of% @slot55) := ⟨@ty3, @ty4, @ty9, @ty27, @ty28, @ty29, @ty118, @slot55⟩
theorem G32 : (type_of% @ty3) /\ (type_of% @ty4) /\ (type_of% @ty9) /\ (type_of% @ty27) /\ (type_of% @ty28) /\ (type_of% @ty29) /\ (type_of% @slot32) := ⟨@ty3, @ty4, @ty9, @ty27, @ty28, @ty29, @slot32⟩
theorem G76 : (type_of% @ty3) /\ (type_of% @ty4) /\ (type_of% @ty23) /\ (type_of% @ty24) /\ (type_of% @ty30) /\ (type_of% @slot76) /\ (type_of% @plan76_4) := ⟨@ty3, @ty4, @ty23, @ty24, @ty30, @slot76, @plan76_4⟩
theorem G75 : (type_of% @ty3) /\ (type_of% @ty4) /\ (type_of% @ty9) /\ (type_of% @ty23) /\ (type_of% @ty24) /\ (type_of% @ty25) /\ (type_of% @ty26) /\ (type_of% @ty27) /\ (type_of% @ty28) /\ (type_of% @ty29) /\ (type_of% @ty30) /\ (type_of% @ty31) /\ (type_of% @ty32) /\ (type_of% @slot75) := ⟨@ty3, @ty4, @ty9, @ty23, @ty24, @ty25, @ty26, @ty27, @ty28, @ty29, @ty30, @ty31, @ty32, @slot75⟩
theorem G44 : (type_of% @ty3) /\ (type_of% @ty4) /\ (type_of% @ty9) /\ (type_of% @ty23) /\ (type_of% @ty24) /\ (type_of% @ty25) /\ (type_of% @ty26) /\ (type_of% @ty27) /\ (type_of% @ty28) /\ (type_of% @ty29) /\ (type_of% @ty30) /\ (type_of% @ty31) /\ (type_of% @ty32) /\ (type_of% @slot44) := ⟨@ty3, @ty4, @ty9, @ty23, @ty24, @ty25, @ty26, @ty27, @ty28, @ty29, @ty30, @ty31, @ty32, @slot44⟩
theorem G12 : (type_of% @ty3) /\ (type_of% @ty4) /\ (type_of% @ty9) /\ (type_of% @ty23) /\ (type_of% @ty24) /\ (type_of% @ty25) /\ (type_of% @ty26) /\ (type_of% @ty27) /\ (type_of% @ty28) /\ (type_of% @ty29) /\ (type_of% @ty30) /\ (type_of% @ty31) /\ (type_of% @ty32) /\ (type_of% @slot12) /\ (type_of% @plan12_8) := ⟨@ty3, @ty4, @ty9, @ty23, @ty24, @ty25, @ty26, @ty27, @ty28, @ty29, @ty30, @ty31, @ty32, @slot12, @plan12_8⟩
theorem G105 : (type_of% @ty9) /\ (type_of% @ty27) /\ (type_of% @slot105) := ⟨@ty9, @ty27, @slot105⟩
theorem G106 : (type_of% @ty3) /\ (type_of% @ty23) /\ (type_of% @ty24) /\ (type_of% @ty30) /\ (type_of% @slot106) := ⟨@ty3, @ty23, @ty24, @ty30, @slot106⟩
theorem G71 : (type_of% @ty3) /\ (type_of% @ty4) /\ (type_of% @ty9) /\ (type_of% @ty23) /\ (type_of% @ty24) /\ (type_of% @ty25) /\ (type_of% @ty26) /\ (type_of% @ty27) /\ (type_of% @ty28) /\ (type_of% @ty29) /\ (type_of% @ty30) /\ (type_of% @ty31) /\ (type_of% @ty32) /\ (type_of% @slot71) := ⟨@ty3, @ty4, @ty9, @ty23, @ty24, @ty25, @ty26, @ty27, @ty28, @ty29, @ty30, @ty31, @ty32, @slot71⟩
theorem G41 : (type_of% @ty3) /\ (type_of% @ty4) /\ (type_of% @ty9) /\ (type_of% @ty23) /\ (type_of% @ty24) /\ (type_of% @ty25) /\ (type_of% @ty26) /\ (type_of% @ty27) /\ (type_of% @ty28) /\ (type_of% @ty29) /\ (type_of% @ty30) /\ (type_of% @ty31) /\ (type_of% @ty32) /\ (type_of% @ty123) /\ (type_of% @ty124) /\ (type_of% @ty125) /\ (type_of% @slot41) := ⟨@ty3, @ty4, @ty9, @ty23, @ty24, @ty25, @ty26, @ty27, @ty28, @ty29, @ty30, @ty31, @ty32, @ty123, @ty124, @ty125, @slot41⟩
theorem G42 : (type_of% @ty3) /\ (type_of% @ty4) /\ (type_of% @ty9) /\ (type_of% @ty23) /\ (type_of% @ty24) /\ (type_of% @ty25) /\ (type_of% @ty26) /\ (type_of% @ty27) /\ (type_of% @ty28) /\ (type_of% @ty29) /\ (type_of% @ty30) /\ (type_of% @ty31) /\ (type_of% @ty32) /\ (type_of% @ty91) /\ (type_of% @ty123) /\ (type_of% @ty124) /\ (type_of% @ty125) /\ (type_of% @slot42) /\ (type_of% @plan42_3) := ⟨@ty3, @ty4, @ty9, @ty23, @ty24, @ty25, @ty26, @ty27, @ty28, @ty29, @ty30, @ty31, @ty32, @ty91, @ty123, @ty124, @ty125, @slot42, @plan42_3⟩
theorem G58 : (type_of% @ty3) /\ (type_of% @ty4) /\ (type_of% @ty9) /\ (type_of% @ty23) /\ (type_of% @ty24) /\ (type_of% @ty25) /\ (type_of% @ty26) /\ (type_of% @ty27) /\ (type_of% @ty28) /\ (type_of% @ty29) /\ (type_of% @ty30) /\ (type_of% @ty31) /\ (type_of% @ty32) /\ (type_of% @ty91) /\ (type_of% @ty123) /\ (type_of% @ty124) /\ (type_of% @ty125) /\ (type_of% @slot58) := ⟨@ty3, @ty4, @ty9, @ty23, @ty24, @ty25, @ty26, @ty27, @ty28, @ty29, @ty30, @ty31, @ty32, @ty91, @ty123, @ty124, @ty125, @slot58⟩
theorem G43 : (type_of% @ty3) /\ (type_of% @ty4) /\ (type_of% @ty9) /\ (type_of% @ty23) /\ (type_of% @ty24) /\ (type_of% @ty25) /\ (type_of% @ty26) /\ (type_of% @ty27) /\ (type_of% @ty28) /\ (type_of% @ty29) /\ (type_of% @ty30) /\ (type_of% @ty31) /\ (type_of% @ty32) /\ (type_of% @ty91) /\ (type_of% @ty123) /\ (type_of% @ty124) /\ (type_of% @ty125) /\ (type_of% @slot43) /\ (type_of% @plan43_5) /\ (type_of% @plan43_8) := ⟨@ty3, @ty4, @ty9, @ty23, @ty24, @ty25, @ty26, @ty27, @ty28, @ty29, @ty30, @ty31, @ty32, @ty91, @ty123, @ty124, @ty125, @slot43, @plan43_5, @plan43_8⟩
theorem G13 : (type_of% @ty3) /\ (type_of% @ty4) /\ (type_of% @ty9) /\ (type_of% @ty22) /\ (type_of% @ty23) /\ (type_of% @ty24) /\ (type_of% @ty25) /\ (type_of% @ty26) /\ (type_of% @ty27) /\ (type_of% @ty28) /\ (type_of% @ty29) /\ (type_of% @ty30) /\ (type_of% @ty31) /\ (type_of% @ty32) /\ (type_of% @slot13) := ⟨@ty3, @ty4, @ty9, @ty22, @ty23, @ty24, @ty25, @ty26, @ty27, @ty28, @ty29, @ty30, @ty31, @ty32, @slot13⟩
theorem G10 : (type_of% @ty3) /\ (type_of% @ty4) /\ (type_of% @ty9) /\ (type_of% @ty23) /\ (type_of% @ty24) /\ (type_of% @ty25) /\ (type_of% @ty26) /\ (type_of% @ty27) /\ (type_of% @ty28) /\ (type_of% @ty29) /\ (type_of% @ty30) /\ (type_of% @ty31) /\ (type_of% @ty32) /\ (type_of% @slot10) := ⟨@ty3, @ty4, @ty9, @ty23, @ty24, @ty25, @ty26, @ty27, @ty28, @ty29, @ty30, @ty31, @ty32, @slot10⟩
theorem G40 : (type_of% @ty3) /\ (type_of% @ty43) /\ (type_of% @slot40) := ⟨@ty3, @ty43, @slot40⟩
theorem G14 : (type_of% @ty3) /\ (type_of% @ty4) /\ (type_of% @ty9) /\ (type_of% @ty22) /\ (type_of% @ty23) /\ (type_of% @ty24) /\ (type_of% @ty25) /\ (type_of% @ty26) /\ (type_of% @ty27) /\ (type_of% @ty28) /\ (type_of% @ty29) /\ (type_of% @ty30) /\ (type_of% @ty31) /\ (type_of% @ty32) /\ (type_of% @ty33) /\ (type_of% @ty34) /\ (type_of% @ty35) /\ (type_of% @ty40) /\ (type_of% @ty43) /\ (type_of% @ty44) /\ (type_of% @ty45) /\ (type_of% @ty46) /\ (type_of% @ty91) /\ (type_of% @ty93) /\ (type_of% @ty94) /\ (type_of% @ty95) /\ (type_of% @ty96) /\ (type_of% @ty109) /\ (type_of% @ty110) /\ (type_of% @ty111) /\ (type_of% @ty112) /\ (type_of% @ty113) /\ (type_of% @ty123) /\ (type_of% @ty124) /\ (type_of% @ty125) /\ (type_of% @ty132) /\ (type_of% @ty133) /\ (type_of% @ty190) /\ (type_of% @ty191) /\ (type_of% @slot14) /\ (type_of% @plan14_7) /\ (type_of% @plan14_8) := ⟨@ty3, @ty4, @ty9, @ty22, @ty23, @ty24, @ty25, @ty26, @ty27, @ty28, @ty29, @ty30, @ty31, @ty32, @ty33, @ty34, @ty35, @ty40, @ty43, @ty44, @ty45, @ty46, @ty91, @ty93, @ty94, @ty95, @ty96, @ty109, @ty110, @ty111, @ty112, @ty113, @ty123, @ty124, @ty125, @ty132, @ty133, @ty190, @ty191, @slot14, @plan14_7, @plan14_8⟩
theorem G103 : (type_of% @ty3) /\ (type_of% @ty4) /\ (type_of% @ty9) /\ (type_of% @ty23) /\ (type_of% @ty24) /\ (type_of% @ty25) /\ (type_of% @ty26) /\ (type_of% @ty27) /\ (type_of% @ty28) /\ (type_of% @ty29) /\ (type_of% @ty30) /\ (type_of% @ty31) /\ (type_of% @ty32) /\ (type_of% @ty91) /\ (type_of% @ty123) /\ (type_of% @ty124) /\ (type_of% @ty125) /\ (type_of% @slot103) /\ (type_of% @plan103_4) := ⟨@ty3, @ty4, @ty9, @ty23, @ty24, @ty25, @ty26, @ty27, @ty28, @ty29, @ty30, @ty31, @ty32, @ty91, @ty123, @ty124, @ty125, @slot103, @plan103_4⟩
theorem G35 : (type_of% @ty3) /\ (type_of% @ty4) /\ (type_of% @ty9) /\ (type_of% @ty22) /\ (type_of% @ty23) /\ (type_of% @ty24) /\ (type_of% @ty25) /\ (type_of% @ty26) /\ (type_of% @ty27) /\ (type_of% @ty28) /\ (type_of% @ty29) /\ (type_of% @ty30) /\ (type_of% @ty31) /\ (type_of% @ty32) /\ (type_of% @ty33) /\ (type_of% @ty34) /\ (type_of% @ty35) /\ (type_of% @ty39) /\ (type_of% @ty43) /\ (type_of% @ty44) /\ (type_of% @ty45) /\ (type_of% @ty46) /\ (type_of% @ty91) /\ (type_of% @ty93) /\ (type_of% @ty94) /\ (type_of% @ty95) /\ (type_of% @ty96) /\ (type_of% @ty109) /\ (type_of% @ty110) /\ (type_of% @ty111) /\ (type_of% @ty112) /\ (type_of% @ty113) /\ (type_of% @ty123) /\ (type_of% @ty124) /\ (type_of% @ty125) /\ (type_of% @ty132) /\ (type_of% @ty133) /\ (type_of% @ty190) /\ (type_of% @ty191) /\ (type_of% @slot35) := ⟨@ty3, @ty4, @ty9, @ty22, @ty23, @ty24, @ty25, @ty26, @ty27, @ty28, @ty29, @ty30, @ty31, @ty32, @ty33, @ty34, @ty35, @ty39, @ty43, @ty44, @ty45, @ty46, @ty91, @ty93, @ty94, @ty95, @ty96, @ty109, @ty110, @ty111, @ty112, @ty113, @ty123, @ty124, @ty125, @ty132, @ty133, @ty190, @ty191, @slot35⟩
theorem G69 : (type_of% @ty3) /\ (type_of% @ty4) /\ (type_of% @ty9) /\ (type_of% @ty23) /\ (type_of% @ty24) /\ (type_of% @ty25) /\ (type_of% @ty26) /\ (type_of% @ty27) /\ (type_of% @ty28) /\ (type_of% @ty29) /\ (type_of% @ty30) /\ (type_of% @ty31) /\ (type_of% @ty32) /\ (type_of% @ty91) /\ (type_of% @ty123) /\ (type_of% @ty124) /\ (type_of% @ty125) /\ (type_of% @slot69) := ⟨@ty3, @ty4, @ty9, @ty23, @ty24, @ty25, @ty26, @ty27, @ty28, @ty29, @ty30, @ty31, @ty32, @ty91, @ty123, @ty124, @ty125, @slot69⟩
theorem G21 : (type_of% @ty3) /\ (type_of% @ty4) /\ (type_of% @ty9) /\ (type_of% @ty22) /\ (type_of% @ty23) /\ (type_of% @ty24) /\ (type_of% @ty25) /\ (type_of% @ty26) /\ (type_of% @ty27) /\ (type_of% @ty28) /\ (type_of% @ty29) /\ (type_of% @ty30) /\ (type_of% @ty31) /\ (type_of% @ty32) /\ (type_of% @ty33) /\ (type_of% @ty34) /\ (type_of% @ty35) /\ (type_of% @ty39) /\ (type_of% @ty43) /\ (type_of% @ty44) /\ (type_of% @ty45) /\ (type_of% @ty46) /\ (type_of% @ty91) /\ (type_of% @ty93) /\ (type_of% @ty94) /\ (type_of% @ty95) /\ (type_of% @ty96) /\ (type_of% @ty109) /\ (type_of% @ty110) /\ (type_of% @ty111) /\ (type_of% @ty112) /\ (type_of% @ty113) /\ (type_of% @ty123) /\ (type_of% @ty124) /\ (type_of% @ty125) /\ (type_of% @ty132) /\ (type_of% @ty133) /\ (type_of% @ty190) /\ (type_of% @ty191) /\ (type_of% @slot21) := ⟨@ty3, @ty4, @ty9, @ty22, @ty23, @ty24, @ty25, @ty26, @ty27, @ty28, @ty29, @ty30, @ty31, @ty32, @ty33, @ty34, @ty35, @ty39, @ty43, @ty44, @ty45, @ty46, @ty91, @ty93, @ty94, @ty95, @ty96, @ty109, @ty110, @ty111, @ty112, @ty113, @ty123, @ty124, @ty125, @ty132, @ty133, @ty190, @ty191, @slot21⟩
theorem G30 : (type_of% @ty3) /\ (type_of% @ty4) /\ (type_of% @ty9) /\ (type_of% @ty22) /\ (type_of% @ty23) /\ (type_of% @ty24) /\ (type_of% @ty25) /\ (type_of% @ty26) /\ (type_of% @ty27) /\ (type_of% @ty28) /\ (type_of% @ty29) /\ (type_of% @ty30) /\ (type_of% @ty31) /\ (type_of% @ty32) /\ (type_of% @ty33) /\ (type_of% @ty34) /\ (type_of% @ty35) /\ (type_of% @ty39) /\ (type_of% @ty43) /\ (type_of% @ty44) /\ (type_of% @ty45) /\ (type_of% @ty46) /\ (type_of% @ty91) /\ (type_of% @ty93) /\ (type_of% @ty94) /\ (type_of% @ty95) /\ (type_of% @ty96) /\ (type_of% @ty109) /\ (type_of% @ty110) /\ (type_of% @ty111) /\ (type_of% @ty112) /\ (type_of% @ty113) /\ (type_of% @ty123) /\ (type_of% @ty124) /\ (type_of% @ty125) /\ (type_of% @ty132) /\ (type_of% @ty133) /\ (type_of% @ty138) /\ (type_of% @ty190) /\ (type_of% @ty191) /\ (type_of% @slot30) /\ (type_of% @plan30_11) /\ (type_of% @plan30_12) /\ (type_of% @plan30_20) /\ (type_of% @plan30_21) /\ (type_of% @plan30_22) /\ (type_of% @plan30_23) /\ (type_of% @plan30_24) := ⟨@ty3, @ty4, @ty9, @ty22, @ty23, @ty24, @ty25, @ty26, @ty27, @ty28, @ty29, @ty30, @ty31, @ty32, @ty33, @ty34, @ty35, @ty39, @ty43, @ty44, @ty45, @ty46, @ty91, @ty93, @ty94, @ty95, @ty96, @ty109, @ty110, @ty111, @ty112, @ty113, @ty123, @ty124, @ty125, @ty132, @ty133, @ty138, @ty190, @ty191, @slot30, @plan30_11, @plan30_12, @plan30_20, @plan30_21, @plan30_22, @plan30_23, @plan30_24⟩
theorem G22 : (type_of% @ty3) /\ (type_of% @ty4) /\ (type_of% @ty9) /\ (type_of% @ty22) /\ (type_of% @ty23) /\ (type_of% @ty24) /\ (type_of% @ty25) /\ (type_of% @ty26) /\ (type_of% @ty27) /\ (type_of% @ty28) /\ (type_of% @ty29) /\ (type_of% @ty30) /\ (type_of% @ty31) /\ (type_of% @ty32) /\ (type_of% @ty33) /\ (type_of% @ty34) /\ (type_of% @ty35) /\ (type_of% @ty39) /\ (type_of% @ty43) /\ (type_of% @ty44) /\ (type_of% @ty45) /\ (type_of% @ty46) /\ (type_of% @ty91) /\ (type_of% @ty93) /\ (type_of% @ty94) /\ (type_of% @ty95) /\ (type_of% @ty96) /\ (type_of% @ty109) /\ (type_of% @ty110) /\ (type_of% @ty111) /\ (type_of% @ty112) /\ (type_of% @ty113) /\ (type_of% @ty123) /\ (type_of% @ty124) /\ (type_of% @ty125) /\ (type_of% @ty132) /\ (type_of% @ty133) /\ (type_of% @ty190) /\ (type_of% @ty191) /\ (type_of% @slot22) /\ (type_of% @plan22_5) /\ (type_of% @plan22_7) /\ (type_of% @plan22_12) := ⟨@ty3, @ty4, @ty9, @ty22, @ty23, @ty24, @ty25, @ty26, @ty27, @ty28, @ty29, @ty30, @ty31, @ty32, @ty33, @ty34, @ty35, @ty39, @ty43, @ty44, @ty45, @ty46, @ty91, @ty93, @ty94, @ty95, @ty96, @ty109, @ty110, @ty111, @ty112, @ty113, @ty123, @ty124, @ty125, @ty132, @ty133, @ty190, @ty191, @slot22, @plan22_5, @plan22_7, @plan22_12⟩
theorem G15 : (type_of% @ty3) /\ (type_of% @ty4) /\ (type_of% @ty9) /\ (type_of% @ty22) /\ (type_of% @ty23) /\ (type_of% @ty24) /\ (type_of% @ty25) /\ (type_of% @ty26) /\ (type_of% @ty27) /\ (type_of% @ty28) /\ (type_of% @ty29) /\ (type_of% @ty30) /\ (type_of% @ty31) /\ (type_of% @ty32) /\ (type_of% @ty33) /\ (type_of% @ty34) /\ (type_of% @ty35) /\ (type_of% @ty39) /\ (type_of% @ty43) /\ (type_of% @ty44) /\ (type_of% @ty45) /\ (type_of% @ty46) /\ (type_of% @ty91) /\ (type_of% @ty93) /\ (type_of% @ty94) /\ (type_of% @ty95) /\ (type_of% @ty96) /\ (type_of% @ty109) /\ (type_of% @ty110) /\ (type_of% @ty111) /\ (type_of% @ty112) /\ (type_of% @ty113) /\ (type_of% @ty123) /\ (type_of% @ty124) /\ (type_of% @ty125) /\ (type_of% @ty132) /\ (type_of% @ty133) /\ (type_of% @ty190) /\ (type_of% @ty191) /\ (type_of% @slot15) /\ (type_of% @plan15_1) /\ (type_of% @plan15_3) := ⟨@ty3, @ty4, @ty9, @ty22, @ty23, @ty24, @ty25, @ty26, @ty27, @ty28, @ty29, @ty30, @ty31, @ty32, @ty33, @ty34, @ty35, @ty39, @ty43, @ty44, @ty45, @ty46, @ty91, @ty93, @ty94, @ty95, @ty96, @ty109, @ty110, @ty111, @ty112, @ty113, @ty123, @ty124, @ty125, @ty132, @ty133, @ty190, @ty191, @slot15, @plan15_1, @plan15_3⟩
theorem G9 : (type_of% @ty3) /\ (type_of% @ty4) /\ (type_of% @ty9) /\ (type_of% @ty22) /\ (type_of% @ty23) /\ (type_of% @ty24) /\ (type_of% @ty25) /\ (type_of% @ty26) /\ (type_of% @ty27) /\ (type_of% @ty28) /\ (type_of% @ty29) /\ (type_of% @ty30) /\ (type_of% @ty31) /\ (type_of% @ty32) /\ (type_of% @ty33) /\ (type_of% @ty34) /\ (type_of% @ty35) /\ (type_of% @ty39) /\ (type_of% @ty40) /\ (type_of% @ty43) /\ (type_of% @ty44) /\ (type_of% @ty45) /\ (type_of% @ty46) /\ (type_of% @ty91) /\ (type_of% @ty93) /\ (type_of% @ty94) /\ (type_of% @ty95) /\ (type_of% @ty96) /\ (type_of% @ty109) /\ (type_of% @ty110) /\ (type_of% @ty111) /\ (type_of% @ty112) /\ (type_of% @ty113) /\ (type_of% @ty123) /\ (type_of% @ty124) /\ (type_of% @ty125) /\ (type_of% @ty132) /\ (type_of% @ty133) /\ (type_of% @ty190) /\ (type_of% @ty191) /\ (type_of% @slot9) /\ (type_of% @plan9_22) := ⟨@ty3, @ty4, @ty9, @ty22, @ty23, @ty24, @ty25, @ty26, @ty27, @ty28, @ty29, @ty30, @ty31, @ty32, @ty33, @ty34, @ty35, @ty39, @ty40, @ty43, @ty44, @ty45, @ty46, @ty91, @ty93, @ty94, @ty95, @ty96, @ty109, @ty110, @ty111, @ty112, @ty113, @ty123, @ty124, @ty125, @ty132, @ty133, @ty190, @ty191, @slot9, @plan9_22⟩
end Go.Ev
set_option maxRecDepth 100000
namespace Go.Ev
open Go.Proofs
def StrsAt (h : Heap) (v : V) (l : List ByteArray) : Prop :=
  ∃ a cap z, v = .sl a l.length cap z /\ l.length <= 9223372036854775807 /\ True /\ (l = [] \/ ∃ b g o rw full, a = .at b g o /\ hcells h b g = some (rw, full) /\ ∀ (i : Nat) (s : ByteArray), l[i]? = some s -> full[o + i]? = some (.str s))
theorem Strs.at {h : Heap} {v : V} {l : List ByteArray} (hs : Strs h v l) : StrsAt h v l := by
  obtain ⟨h1, h2, ⟨rfl, rfl⟩ | ⟨rfl, rfl⟩ | ⟨b, cap, full, rfl, h3, h4, h5, h6, h7⟩⟩ := hs
  · exact ⟨_, _, _, rfl, h2, trivial, .inl rfl⟩
  · exact ⟨_, _, _, rfl, h2, trivial, .inl rfl⟩
  · refine ⟨_, _, _, rfl, h2, trivial, .inr ⟨b, 0, 0, false, full, rfl, by unfold hcells; rw [h5]; exact grd_t rfl _, fun i s hi => by rw [Nat.zero_add]; exact h7 i s hi⟩⟩
end Go.Ev
set_option maxRecDepth 100000
namespace Go.Ev
open Go.Proofs
def KeepC (h h' : Heap) : Prop := h.length <= h'.length /\ ∀ b g p, hcells h b g = some p -> hcells h' b g = some p
theorem KeepC.refl (h : Heap) : KeepC h h := ⟨Nat.le_refl _, fun _ _ _ e => e⟩
theorem KeepC.trans {a b c : Heap} (h : KeepC a b) (k : KeepC b c) : KeepC a c := ⟨Nat.le_trans h.1 k.1, fun i g p e => k.2 i g p (h.2 i g p e)⟩
theorem KeepC.app (h l : Heap) : KeepC h (h ++ l) := ⟨by simp, fun b g p e => by rw [hcells_app (hcells_lt e)]; exact e⟩
theorem StrsAt.keep {h h' : Heap} {v : V} {l : List ByteArray} (hs : StrsAt h v l) (k : KeepC h h') : StrsAt h' v l := by
  obtain ⟨a, cap, z, h1, h2, h3, h4⟩ := hs
  refine ⟨a, cap, z, h1, h2, h3, h4.imp id ?_⟩
  rintro ⟨b, g, o, rw, full, e1, e2, e3⟩
  exact ⟨b, g, o, rw, full, e1, k.2 _ _ _ e2, e3⟩
theorem RowAt.keep {h h' : Heap} {v : V} {l : List RP} (hs : RowAt h v l) (k : KeepC h h') : RowAt h' v l := by
  obtain ⟨a, cap, z, h1, h2, h3, h4⟩ := hs
  refine ⟨a, cap, z, h1, h2, h3, h4.imp id ?_⟩
  rintro ⟨b, g, o, rw, full, e1, e2, e3⟩
  exact ⟨b, g, o, rw, full, e1, k.2 _ _ _ e2, e3⟩
end Go.Ev
set_option maxRecDepth 100000
namespace Go.Ev
open Go.Ev renaming exPure -> Ja, ofValue -> Jb, cellsV -> Jc, load -> Jd, store -> Je, binOp -> Jf, intOp -> Jg, rdV -> Jh, vsame -> Ji, vsames -> Jj, makeSliceV -> Jk, resV -> Jl, isCell -> Jm, nilCheckV -> Jn, allV -> Jo, builtinV -> Jp, lenV -> Jq, indexAddrV -> Jr, unOp -> Js, minmaxV -> Jt, minmax -> Ju, sliceV -> Jv, asInt -> Jw, appendV -> Jx, forkB -> Jy, roY -> Jz, rwB -> J0, copyV -> J1, clearV -> J2, convV -> J3, sliceCells -> J4, shift -> J5
open Bool renaming true -> BT, false -> BF
open Nat renaming reduceEqDiff -> J6, reduceLT -> J7, reduceAdd -> J8, reduceBEq -> J9, reduceSub -> JA, reduceMul -> JB, reduceLeDiff -> JJ
open Int renaming reduceLT -> JC, reduceLE -> JD, reduceAdd -> JE, reduceSub -> JF, reduceNeg -> JG, reduceToNat -> JH, reduceEq -> JI
open Go.Proofs
def IntsAt (h : Heap) (v : V) (l : List Int) : Prop :=
  ∃ a cap z, v = .sl a l.length cap z /\ l.length <= 9223372036854775807 /\ (l = [] \/ ∃ b g o rw full, a = .at b g o /\ hcells h b g = some (rw, full) /\ ∀ (i : Nat) (x : Int), l[i]? = some x -> full[o + i]? = some (.int .i64 x))
theorem IntsAt.keep {h h' : Heap} {v : V} {l : List Int} (hs : IntsAt h v l) (k : KeepC h h') : IntsAt h' v l := by
  obtain ⟨a, cap, z, h1, h2, h4⟩ := hs
  refine ⟨a, cap, z, h1, h2, h4.imp id ?_⟩
  rintro ⟨b, g, o, rw, full, e1, e2, e3⟩
  exact ⟨b, g, o, rw, full, e1, k.2 _ _ _ e2, e3⟩
theorem IntsAt.sl {h : Heap} {v : V} {l : List Int} (hs : IntsAt h v l) : ∃ a cap z, v = .sl a l.length cap z := by
  obtain ⟨a, cap, z, rfl, _⟩ := hs; exact ⟨_, _, _, rfl⟩
theorem fits_ints {h : Heap} {d : Nat} {cs : List V} (hf : Fits X.ty h (d + 2) 43 cs) : ∃ v l, cs = [v] /\ IntsAt h v l := by
  unfold Fits at hf
  rw [ty43] at hf
  have hmax : maxLen = 9223372036854775807 := by decide
  rw [hmax] at hf
  rcases hf with rfl | rfl | ⟨b, len, cap, full, rfl, h1, h2, h3, h4, h5, h6⟩
  · exact ⟨_, [], rfl, .nil, 0, 0, rfl, by decide, .inl rfl⟩
  · exact ⟨_, [], rfl, .any, 0, 1, rfl, by decide, .inl rfl⟩
  · have hsz : (X.ty 3).size = 1 := by rw [ty3]
    rw [hsz] at h5 h6
    have hx : ∀ i, ∃ x : Int, i < cap -> full[i]? = some (.int .i64 x) := by
      intro i
      by_cases hi : i < cap
      · obtain ⟨x, e, _⟩ := fits_int (h6 i hi)
        refine ⟨x, fun _ => ?_⟩
        have := congrArg (fun l => l[0]?) e
        simpa using this
      · exact ⟨0, fun h' => absurd h' hi⟩
    obtain ⟨g, hg⟩ := Classical.axiomOfChoice hx
    have hlen : ((List.range len).map g).length = len := by rw [List.length_map, List.length_range]
    refine ⟨_, (List.range len).map g, rfl, .at b 0 0, cap, 0, by rw [hlen], by rw [hlen]; omega, .inr ⟨b, 0, 0, false, full, rfl, ?_, ?_⟩⟩
    · unfold hcells; rw [h4]; exact grd_t rfl _
    · intro i x hi
      rw [List.getElem?_map] at hi
      cases hr : (List.range len)[i]? with
      | none => rw [hr] at hi; cases hi
      | some j =>
        rw [hr] at hi
        have hj : i < len := by have := (List.getElem?_eq_some_iff.1 hr).1; simpa using this
        have : j = i := by rw [List.getElem?_range hj] at hr; exact (Option.some.inj hr).symm
        subst this
        simp only [Option.map_some,Option.some.injEq] at hi
        subst hi
        rw [Nat.zero_add]
        exact hg j (by omega)
set_option maxHeartbeats 4000000 in
theorem indexN_at {h : Heap} {v : V} {l : List Int} (hr : IntsAt h v l) (k : Int) :
    Ev.Ok (D X (.fn 70 []) [v, .int .i64 k] h) fun y => ∃ n : Int, y = (.int .i64 n, h) /\ (0 <= n ↔ k ∈ l) := by
  refine Ok.aim fun Q hQ => ?_
  have hQ' := Hid.mk hQ
  clear hQ
  obtain ⟨a, cap, z, rfl, h1, h2⟩ := hr
  (refine Ok.body body70 pin70 ?_; simp only [c70,Tryz.f70,Option.getD_some,nslot70,List.append_nil,List.map,List.replicate,List.length_cons,List.length_nil,Nat.reduceAdd,Nat.reduceSub,List.cons_append,List.nil_append])
  (repeat' (first | (simp -implicitDefEqProofs (maxSteps := 1000000) (disch := first | assumption | omega | (simp only [ZDI]; omega)) only [*,lenV,G70,Za,Zb,Zc,Zd,Ze,Zf,Zg,Zh,Zi,Zj,Zk,Zl,Zm,Zn,Zo,Ja,Jb,Jc,J6,Jd,Je,J7,J8,Jf,Jg,Jh,Ji,Jj,Jk,J9,Jl,Jm,wr,Jn,JA,JB,Jo,Jp,Jq,Jr,Js,Jt,Ju,Jv,Jw,Jx,Jy,Jz,J0,J1,J2,J3,J4,J5,reduceCtorEq,JC,JD,JE,JF,JG,JH,JI,JJ]) | ((with_reducible (first | apply Ok.br | apply Ok.gd | apply Ok.ld)) <;> (intro g; (try simp only [ZGS] at g); try (exfalso; omega)))))
  refine Ok.loop [BF, BF, BF, BF, BT, BT, BF, BF, BT, BT, BT, BT, BT, BT, BT, BT, BT, BT, BT] (fun m s2 => ∃ i : Nat, m = l.length - i /\ i <= l.length /\ tv s2.e 8 = .v (.int .i64 i) /\ s2.l = [] /\ s2.h = h /\ ∀ y ∈ l.take i, ¬ y = k)
    (fun y s2 => s2.h = h /\ s2.l = [] /\ ((y = .exit 0 /\ ¬ k ∈ l) \/ (y = .ret /\ ∃ i : Nat, k ∈ l /\ tv s2.e 4 = .v (.int .i64 i)))) (l.length - 0) ⟨0, rfl, Nat.zero_le _, rfl, rfl, rfl, by simp⟩ ?_ ?_
  · intro n ⟨e', l', H'⟩ hW ⟨i, hm, hi, h9, k2, k3, hno⟩
    dsimp only at hW h9 k2 k3
    subst l' H'
    rw [hW.spread]
    simp only [spread_t,spread_f,spread_n,Nat.zero_add,Nat.reduceAdd,h9]
    clear hW hQ'
    have hno' := Hid.mk hno
    clear hno
    by_cases hlt : i < l.length
    · have hlt' : (i : Int) < (l.length : Int) := by omega
      have g1 : 0 <= (i : Int) /\ (i : Int) < (l.length : Int) := by omega
      rcases h2 with rfl | ⟨b, q, o, rw, full, rfl, hb, hfull⟩
      · simp at hlt
      · obtain ⟨y, hy⟩ : ∃ y, l[i]? = some y := ⟨_, List.getElem?_eq_getElem hlt⟩
        have hf := hfull i y hy
        have hy' := Hid.mk hy
        clear hy hfull
        by_cases hd : k = y
        · have hd' := Hid.mk hd
          (repeat' (first | (simp -implicitDefEqProofs (maxSteps := 1000000) (disch := first | assumption | omega | (simp only [ZDI]; omega)) only [*,lenV,G70,Za,Zb,Zc,Zd,Ze,Zf,Zg,Zh,Zi,Zj,Zk,Zl,Zm,Zn,Zo,Ja,Jb,Jc,J6,Jd,Je,J7,J8,Jf,Jg,Jh,Ji,Jj,Jk,J9,Jl,Jm,wr,Jn,JA,JB,Jo,Jp,Jq,Jr,Js,Jt,Ju,Jv,Jw,Jx,Jy,Jz,J0,J1,J2,J3,J4,J5,reduceCtorEq,JC,JD,JE,JF,JG,JH,JI,JJ]) | ((with_reducible (first | apply Ok.br | apply Ok.gd | apply Ok.ld)) <;> (intro g; (try simp only [ZGS] at g); try (exfalso; omega)))))
          exact Turn.ret ⟨rfl, rfl, rfl, .inr ⟨rfl, i, by first | exact List.mem_of_getElem? hy'.out | (rw [hd'.out]; exact List.mem_of_getElem? hy'.out), rfl⟩⟩
        · have hd' := Hid.mk hd
          (repeat' (first | (simp -implicitDefEqProofs (maxSteps := 1000000) (disch := first | assumption | omega | (simp only [ZDI]; omega)) only [*,lenV,G70,Za,Zb,Zc,Zd,Ze,Zf,Zg,Zh,Zi,Zj,Zk,Zl,Zm,Zn,Zo,Ja,Jb,Jc,J6,Jd,Je,J7,J8,Jf,Jg,Jh,Ji,Jj,Jk,J9,Jl,Jm,wr,Jn,JA,JB,Jo,Jp,Jq,Jr,Js,Jt,Ju,Jv,Jw,Jx,Jy,Jz,J0,J1,J2,J3,J4,J5,reduceCtorEq,JC,JD,JE,JF,JG,JH,JI,JJ]) | ((with_reducible (first | apply Ok.br | apply Ok.gd | apply Ok.ld)) <;> (intro g; (try simp only [ZGS] at g); try (exfalso; omega)))))
          refine Turn.next (l.length - (i + 1)) (by omega) ⟨rfl, i + 1, rfl, by omega, rfl, rfl, rfl, fun z hz => ?_⟩
          rw [List.take_add_one, hy'.out] at hz
          rcases List.mem_append.1 hz with hz | hz
          · exact hno'.out z hz
          · simp at hz; rw [hz]; exact fun e => hd'.out e.symm
    · have hlt' : ¬ (i : Int) < (l.length : Int) := by omega
      (repeat' (first | (simp -implicitDefEqProofs (maxSteps := 1000000) (disch := first | assumption | omega | (simp only [ZDI]; omega)) only [*,lenV,G70,Za,Zb,Zc,Zd,Ze,Zf,Zg,Zh,Zi,Zj,Zk,Zl,Zm,Zn,Zo,Ja,Jb,Jc,J6,Jd,Je,J7,J8,Jf,Jg,Jh,Ji,Jj,Jk,J9,Jl,Jm,wr,Jn,JA,JB,Jo,Jp,Jq,Jr,Js,Jt,Ju,Jv,Jw,Jx,Jy,Jz,J0,J1,J2,J3,J4,J5,reduceCtorEq,JC,JD,JE,JF,JG,JH,JI,JJ]) | ((with_reducible (first | apply Ok.br | apply Ok.gd | apply Ok.ld)) <;> (intro g; (try simp only [ZGS] at g); try (exfalso; omega)))))
      refine Turn.exit ⟨rfl, rfl, rfl, .inl ⟨rfl, fun hk => ?_⟩⟩
      have := hno'.out
      rw [List.take_of_length_le (by omega)] at this
      exact this k hk rfl
  · intro y ⟨e', l', H'⟩ hW ⟨k3, k2', hy⟩
    dsimp only at hW k2' k3 hy
    subst l' H'
    rw [hW.spread]
    clear hW
    rcases hy with ⟨rfl, hm⟩ | ⟨rfl, i, hk, h4⟩
    · simp only [spread_t,spread_f,spread_n,Nat.zero_add,Nat.reduceAdd]
      have hm' := Hid.mk hm
      clear hm
      (repeat' (first | (simp -implicitDefEqProofs (maxSteps := 1000000) (disch := first | assumption | omega | (simp only [ZDI]; omega)) only [*,G70,Za,Zb,Zc,Zd,Ze,Zf,Zg,Zh,Zi,Zj,Zk,Zl,Zm,Zn,Zo,Ja,Jb,Jc,J6,Jd,Je,J7,J8,Jf,Jg,Jh,Ji,Jj,Jk,J9,Jl,Jm,wr,Jn,JA,JB,Jo,Jp,Jq,Jr,Js,Jt,Ju,Jv,Jw,Jx,Jy,Jz,J0,J1,J2,J3,J4,J5,reduceCtorEq,JC,JD,JE,JF,JG,JH,JI,JJ]) | ((with_reducible (first | apply Ok.br | apply Ok.gd | apply Ok.ld)) <;> (intro g; (try simp only [ZGS] at g); try (exfalso; omega)))))
      exact hQ'.out _ ⟨_, rfl, fun h => absurd h (by decide), fun h => absurd h hm'.out⟩
    · simp only [spread_t,spread_f,spread_n,Nat.zero_add,Nat.reduceAdd,h4]
      have hk' := Hid.mk hk
      clear hk
      (repeat' (first | (simp -implicitDefEqProofs (maxSteps := 1000000) (disch := first | assumption | omega | (simp only [ZDI]; omega)) only [*,G70,Za,Zb,Zc,Zd,Ze,Zf,Zg,Zh,Zi,Zj,Zk,Zl,Zm,Zn,Zo,Ja,Jb,Jc,J6,Jd,Je,J7,J8,Jf,Jg,Jh,Ji,Jj,Jk,J9,Jl,Jm,wr,Jn,JA,JB,Jo,Jp,Jq,Jr,Js,Jt,Ju,Jv,Jw,Jx,Jy,Jz,J0,J1,J2,J3,J4,J5,reduceCtorEq,JC,JD,JE,JF,JG,JH,JI,JJ]) | ((with_reducible (first | apply Ok.br | apply Ok.gd | apply Ok.ld)) <;> (intro g; (try simp only [ZGS] at g); try (exfalso; omega)))))
      exact hQ'.out _ ⟨_, rfl, fun _ => hk'.out, fun _ => by omega⟩
theorem containsN_at {h : Heap} {v : V} {l : List Int} (hr : IntsAt h v l) (k : Int) : D X (.fn 39 []) [v, .int .i64 k] h = some (.bool (decide (k ∈ l)), h) := by
  refine Ok.eq ?_
  obtain ⟨⟨y, g⟩, hy, n, e, hn⟩ := indexN_at hr k
  cases e
  obtain ⟨a, cap, z, rfl⟩ := hr.sl
  have hd : decide (k ∈ l) = decide (0 <= n) := decide_eq_decide.2 hn.symm
  rw [hd]
  clear hn hd hr
  (refine Ok.body body39 pin39 ?_; simp only [c39,Tryz.f39,Option.getD_some,nslot39,List.append_nil,List.map,List.replicate,List.length_cons,List.length_nil,Nat.reduceAdd,Nat.reduceSub,List.cons_append,List.nil_append])
  (repeat' (first | (simp -implicitDefEqProofs (maxSteps := 1000000) (disch := first | assumption | omega | (simp only [ZDI]; omega)) only [*,G39,Za,Zb,Zc,Zd,Ze,Zf,Zg,Zh,Zi,Zj,Zk,Zl,Zm,Zn,Zo,Ja,Jb,Jc,J6,Jd,Je,J7,J8,Jf,Jg,Jh,Ji,Jj,Jk,J9,Jl,Jm,wr,Jn,JA,JB,Jo,Jp,Jq,Jr,Js,Jt,Ju,Jv,Jw,Jx,Jy,Jz,J0,J1,J2,J3,J4,J5,reduceCtorEq,JC,JD,JE,JF,JG,JH,JI,JJ]) | ((with_reducible (first | apply Ok.br | apply Ok.gd | apply Ok.ld)) <;> (intro g; (try simp only [ZGS] at g); try (exfalso; omega)))))
def prvN (p : Option Int) (y : Int) : Bool := match p with | none => true | some x => decide (x < y)
def risN : Option Int -> List Int -> Bool
  | _, [] => true
  | p, y :: r => decide (0 <= y) && decide (y < 7) && prvN p y && risN (some y) r
def prvI (l : List Int) (i : Nat) : Option Int := if i = 0 then none else l[i - 1]?
theorem risN_step {l : List Int} {i : Nat} {y : Int} (hy : l[i]? = some y) : risN (prvI l i) (l.drop i) = (decide (0 <= y) && decide (y < 7) && prvN (prvI l i) y && risN (prvI l (i + 1)) (l.drop (i + 1))) := by
  have hi := (List.getElem?_eq_some_iff.1 hy).1
  rw [List.drop_eq_getElem_cons hi]
  have e : l[i] = y := by rw [List.getElem?_eq_getElem hi] at hy; exact Option.some.inj hy
  have e2 : prvI l (i + 1) = some y := by unfold prvI; rw [if_neg (by omega), Nat.add_sub_cancel, hy]
  rw [e, e2, risN]
theorem risN_end {l : List Int} {i : Nat} (h : l.length <= i) : risN (prvI l i) (l.drop i) = true := by
  rw [List.drop_of_length_le h, risN]
set_option maxHeartbeats 4000000 in
theorem isMembers_at {h : Heap} {v : V} {l : List Int} (hr : IntsAt h v l) : D X (.fn 38 []) [v] h = some (.bool (risN none l && decide ((l.length : Int) % 2 = 1)), h) := by
  refine Ok.eq ?_
  refine Ok.aim fun Q hQ => ?_
  have hQ' := Hid.mk hQ
  clear hQ
  obtain ⟨a, cap, z, rfl, h1, h2⟩ := hr
  have h2' := Hid.mk h2
  clear h2
  (refine Ok.body body38 pin38 ?_; simp only [c38,Tryz.f38,Option.getD_some,nslot38,List.append_nil,List.map,List.replicate,List.length_cons,List.length_nil,Nat.reduceAdd,Nat.reduceSub,List.cons_append,List.nil_append])
  (repeat' (first | (simp -implicitDefEqProofs (maxSteps := 1000000) (disch := first | assumption | omega | (simp only [ZDI]; omega)) only [*,lenV,G38,Za,Zb,Zc,Zd,Ze,Zf,Zg,Zh,Zi,Zj,Zk,Zl,Zm,Zn,Zo,Ja,Jb,Jc,J6,Jd,Je,J7,J8,Jf,Jg,Jh,Ji,Jj,Jk,J9,Jl,Jm,wr,Jn,JA,JB,Jo,Jp,Jq,Jr,Js,Jt,Ju,Jv,Jw,Jx,Jy,Jz,J0,J1,J2,J3,J4,J5,reduceCtorEq,JC,JD,JE,JF,JG,JH,JI,JJ]) | ((with_reducible (first | apply Ok.br | apply Ok.gd | apply Ok.ld)) <;> (intro g; (try simp only [ZGS] at g); try (exfalso; omega)))))
  refine Ok.loop [BF, BF, BT, BT, BT, BF, BF, BT, BT, BT, BT, BT, BT, BT, BT, BT, BT, BT, BT, BT, BT, BT, BT, BT, BT, BT, BT, BT, BT, BT, BT, BT, BF, BF, BF, BF] (fun n s2 => ∃ (i : Nat), n = l.length - i /\ i <= l.length /\ tv s2.e 7 = .v (.int .i64 i) /\ s2.l = [] /\ s2.h = h /\ risN none l = risN (prvI l i) (l.drop i))
    (fun y s2 => s2.h = h /\ s2.l = [] /\ ((y = .exit 0 /\ risN none l = true) \/ (y = .ret /\ risN none l = false /\ tv s2.e 2 = .v (.bool false)))) (l.length - 0) ⟨0, rfl, Nat.zero_le _, rfl, rfl, rfl, rfl⟩ ?_ ?_
  · intro n ⟨e', l', H'⟩ hW ⟨i, hm, hi, h9, k2, k3, hno⟩
    dsimp only at hW h9 k2 k3
    subst l' H'
    rw [hW.spread]
    simp only [spread_t,spread_f,spread_n,Nat.zero_add,Nat.reduceAdd,h9]
    clear hW hQ'
    by_cases hlt : i < l.length
    · have hlt' : (i : Int) < (l.length : Int) := by omega
      have g1 : 0 <= (i : Int) /\ (i : Int) < (l.length : Int) := by omega
      rcases h2'.out with rfl | ⟨b, g, o, rw, full, rfl, hb, hfull⟩
      · simp at hlt
      · obtain ⟨y, hy⟩ : ∃ y, l[i]? = some y := ⟨_, List.getElem?_eq_getElem hlt⟩
        have hf := hfull i _ hy
        rw [risN_step hy] at hno
        by_cases h0 : i = 0
        · have hp : prvN (prvI l i) y = true := by unfold prvI; rw [if_pos h0]; rfl
          rw [hp] at hno
          have g0 : ¬ (0 : Int) < (i : Int) := by omega
          have hno' := Hid.mk hno
          clear hno hy hfull hp h0
          by_cases hy0 : 0 <= y
          · by_cases hy7 : y < 7
            · (repeat' (first | (simp -implicitDefEqProofs (maxSteps := 1000000) (disch := first | assumption | omega | (simp only [ZDI]; omega)) only [*,lenV,G38,Za,Zb,Zc,Zd,Ze,Zf,Zg,Zh,Zi,Zj,Zk,Zl,Zm,Zn,Zo,Ja,Jb,Jc,J6,Jd,Je,J7,J8,Jf,Jg,Jh,Ji,Jj,Jk,J9,Jl,Jm,wr,Jn,JA,JB,Jo,Jp,Jq,Jr,Js,Jt,Ju,Jv,Jw,Jx,Jy,Jz,J0,J1,J2,J3,J4,J5,reduceCtorEq,JC,JD,JE,JF,JG,JH,JI,JJ]) | ((with_reducible (first | apply Ok.br | apply Ok.gd | apply Ok.ld)) <;> (intro g; (try simp only [ZGS] at g); try (exfalso; omega)))))
              exact Turn.next (l.length - (i + 1)) (by omega) ⟨rfl, i + 1, by omega, by omega, rfl, rfl, rfl, by rw [hno'.out]; simp [hy0, hy7]⟩
            · (repeat' (first | (simp -implicitDefEqProofs (maxSteps := 1000000) (disch := first | assumption | omega | (simp only [ZDI]; omega)) only [*,lenV,G38,Za,Zb,Zc,Zd,Ze,Zf,Zg,Zh,Zi,Zj,Zk,Zl,Zm,Zn,Zo,Ja,Jb,Jc,J6,Jd,Je,J7,J8,Jf,Jg,Jh,Ji,Jj,Jk,J9,Jl,Jm,wr,Jn,JA,JB,Jo,Jp,Jq,Jr,Js,Jt,Ju,Jv,Jw,Jx,Jy,Jz,J0,J1,J2,J3,J4,J5,reduceCtorEq,JC,JD,JE,JF,JG,JH,JI,JJ]) | ((with_reducible (first | apply Ok.br | apply Ok.gd | apply Ok.ld)) <;> (intro g; (try simp only [ZGS] at g); try (exfalso; omega)))))
              exact Turn.ret ⟨rfl, rfl, rfl, .inr ⟨rfl, by rw [hno'.out]; simp [hy7], rfl⟩⟩
          · (repeat' (first | (simp -implicitDefEqProofs (maxSteps := 1000000) (disch := first | assumption | omega | (simp only [ZDI]; omega)) only [*,lenV,G38,Za,Zb,Zc,Zd,Ze,Zf,Zg,Zh,Zi,Zj,Zk,Zl,Zm,Zn,Zo,Ja,Jb,Jc,J6,Jd,Je,J7,J8,Jf,Jg,Jh,Ji,Jj,Jk,J9,Jl,Jm,wr,Jn,JA,JB,Jo,Jp,Jq,Jr,Js,Jt,Ju,Jv,Jw,Jx,Jy,Jz,J0,J1,J2,J3,J4,J5,reduceCtorEq,JC,JD,JE,JF,JG,JH,JI,JJ]) | ((with_reducible (first | apply Ok.br | apply Ok.gd | apply Ok.ld)) <;> (intro g; (try simp only [ZGS] at g); try (exfalso; omega)))))
            exact Turn.ret ⟨rfl, rfl, rfl, .inr ⟨rfl, by rw [hno'.out]; simp [hy0], rfl⟩⟩
        · obtain ⟨x, hx⟩ : ∃ x, l[i - 1]? = some x := ⟨_, List.getElem?_eq_getElem (by omega)⟩
          have hf2 := hfull (i - 1) _ hx
          have hp : prvN (prvI l i) y = decide (x < y) := by unfold prvI; rw [if_neg h0, hx]; rfl
          rw [hp] at hno
          have e1 : (i : Int) - 1 = ((i - 1 : Nat) : Int) := by omega
          have g0 : (0 : Int) < (i : Int) := by omega
          have g2 : 0 <= ((i - 1 : Nat) : Int) /\ ((i - 1 : Nat) : Int) < (l.length : Int) := by omega
          have hno' := Hid.mk hno
          clear hno hy hfull hp hx
          by_cases hy0 : 0 <= y
          · by_cases hy7 : y < 7
            · by_cases hxy : x < y
              · (repeat' (first | (simp -implicitDefEqProofs (maxSteps := 1000000) (disch := first | assumption | omega | (simp only [ZDI]; omega)) only [*,lenV,G38,Za,Zb,Zc,Zd,Ze,Zf,Zg,Zh,Zi,Zj,Zk,Zl,Zm,Zn,Zo,Ja,Jb,Jc,J6,Jd,Je,J7,J8,Jf,Jg,Jh,Ji,Jj,Jk,J9,Jl,Jm,wr,Jn,JA,JB,Jo,Jp,Jq,Jr,Js,Jt,Ju,Jv,Jw,Jx,Jy,Jz,J0,J1,J2,J3,J4,J5,reduceCtorEq,JC,JD,JE,JF,JG,JH,JI,JJ]) | ((with_reducible (first | apply Ok.br | apply Ok.gd | apply Ok.ld)) <;> (intro g; (try simp only [ZGS] at g); try (exfalso; omega)))))
                exact Turn.next (l.length - (i + 1)) (by omega) ⟨rfl, i + 1, by omega, by omega, rfl, rfl, rfl, by rw [hno'.out]; simp [hy0, hy7, hxy]⟩
              · (repeat' (first | (simp -implicitDefEqProofs (maxSteps := 1000000) (disch := first | assumption | omega | (simp only [ZDI]; omega)) only [*,lenV,G38,Za,Zb,Zc,Zd,Ze,Zf,Zg,Zh,Zi,Zj,Zk,Zl,Zm,Zn,Zo,Ja,Jb,Jc,J6,Jd,Je,J7,J8,Jf,Jg,Jh,Ji,Jj,Jk,J9,Jl,Jm,wr,Jn,JA,JB,Jo,Jp,Jq,Jr,Js,Jt,Ju,Jv,Jw,Jx,Jy,Jz,J0,J1,J2,J3,J4,J5,reduceCtorEq,JC,JD,JE,JF,JG,JH,JI,JJ]) | ((with_reducible (first | apply Ok.br | apply Ok.gd | apply Ok.ld)) <;> (intro g; (try simp only [ZGS] at g); try (exfalso; omega)))))
                exact Turn.ret ⟨rfl, rfl, rfl, .inr ⟨rfl, by rw [hno'.out]; simp [hxy], rfl⟩⟩
            · (repeat' (first | (simp -implicitDefEqProofs (maxSteps := 1000000) (disch := first | assumption | omega | (simp only [ZDI]; omega)) only [*,lenV,G38,Za,Zb,Zc,Zd,Ze,Zf,Zg,Zh,Zi,Zj,Zk,Zl,Zm,Zn,Zo,Ja,Jb,Jc,J6,Jd,Je,J7,J8,Jf,Jg,Jh,Ji,Jj,Jk,J9,Jl,Jm,wr,Jn,JA,JB,Jo,Jp,Jq,Jr,Js,Jt,Ju,Jv,Jw,Jx,Jy,Jz,J0,J1,J2,J3,J4,J5,reduceCtorEq,JC,JD,JE,JF,JG,JH,JI,JJ]) | ((with_reducible (first | apply Ok.br | apply Ok.gd | apply Ok.ld)) <;> (intro g; (try simp only [ZGS] at g); try (exfalso; omega)))))
              exact Turn.ret ⟨rfl, rfl, rfl, .inr ⟨rfl, by rw [hno'.out]; simp [hy7], rfl⟩⟩
          · (repeat' (first | (simp -implicitDefEqProofs (maxSteps := 1000000) (disch := first | assumption | omega | (simp only [ZDI]; omega)) only [*,lenV,G38,Za,Zb,Zc,Zd,Ze,Zf,Zg,Zh,Zi,Zj,Zk,Zl,Zm,Zn,Zo,Ja,Jb,Jc,J6,Jd,Je,J7,J8,Jf,Jg,Jh,Ji,Jj,Jk,J9,Jl,Jm,wr,Jn,JA,JB,Jo,Jp,Jq,Jr,Js,Jt,Ju,Jv,Jw,Jx,Jy,Jz,J0,J1,J2,J3,J4,J5,reduceCtorEq,JC,JD,JE,JF,JG,JH,JI,JJ]) | ((with_reducible (first | apply Ok.br | apply Ok.gd | apply Ok.ld)) <;> (intro g; (try simp only [ZGS] at g); try (exfalso; omega)))))
            exact Turn.ret ⟨rfl, rfl, rfl, .inr ⟨rfl, by rw [hno'.out]; simp [hy0], rfl⟩⟩
    · have hlt' : ¬ (i : Int) < (l.length : Int) := by omega
      rw [risN_end (by omega)] at hno
      have hno' := Hid.mk hno
      clear hno
      (repeat' (first | (simp -implicitDefEqProofs (maxSteps := 1000000) (disch := first | assumption | omega | (simp only [ZDI]; omega)) only [*,lenV,G38,Za,Zb,Zc,Zd,Ze,Zf,Zg,Zh,Zi,Zj,Zk,Zl,Zm,Zn,Zo,Ja,Jb,Jc,J6,Jd,Je,J7,J8,Jf,Jg,Jh,Ji,Jj,Jk,J9,Jl,Jm,wr,Jn,JA,JB,Jo,Jp,Jq,Jr,Js,Jt,Ju,Jv,Jw,Jx,Jy,Jz,J0,J1,J2,J3,J4,J5,reduceCtorEq,JC,JD,JE,JF,JG,JH,JI,JJ]) | ((with_reducible (first | apply Ok.br | apply Ok.gd | apply Ok.ld)) <;> (intro g; (try simp only [ZGS] at g); try (exfalso; omega)))))
      exact Turn.exit ⟨rfl, rfl, rfl, .inl ⟨rfl, hno'.out⟩⟩
  · intro y ⟨e', l', H'⟩ hW ⟨k3, k2, hy⟩
    dsimp only at hW k2 k3 hy
    subst l' H'
    rw [hW.spread]
    clear hW
    rcases hy with ⟨rfl, hm⟩ | ⟨rfl, hm, h4⟩
    · simp only [spread_t,spread_f,spread_n,Nat.zero_add,Nat.reduceAdd]
      have hm' := Hid.mk hm
      clear hm
      (repeat' (first | (simp -implicitDefEqProofs (maxSteps := 1000000) (disch := first | assumption | omega | (simp only [ZDI]; omega)) only [*,lenV,G38,Za,Zb,Zc,Zd,Ze,Zf,Zg,Zh,Zi,Zj,Zk,Zl,Zm,Zn,Zo,Ja,Jb,Jc,J6,Jd,Je,J7,J8,Jf,Jg,Jh,Ji,Jj,Jk,J9,Jl,Jm,wr,Jn,JA,JB,Jo,Jp,Jq,Jr,Js,Jt,Ju,Jv,Jw,Jx,Jy,Jz,J0,J1,J2,J3,J4,J5,reduceCtorEq,JC,JD,JE,JF,JG,JH,JI,JJ]) | ((with_reducible (first | apply Ok.br | apply Ok.gd | apply Ok.ld)) <;> (intro g; (try simp only [ZGS] at g); try (exfalso; omega)))))
      exact hQ'.out _ (by rw [hm'.out, Bool.true_and, Int.tmod_eq_emod_of_nonneg (Int.natCast_nonneg _)])
    · simp only [spread_t,spread_f,spread_n,Nat.zero_add,Nat.reduceAdd,h4]
      have hm' := Hid.mk hm
      clear hm
      (repeat' (first | (simp -implicitDefEqProofs (maxSteps := 1000000) (disch := first | assumption | omega | (simp only [ZDI]; omega)) only [*,lenV,G38,Za,Zb,Zc,Zd,Ze,Zf,Zg,Zh,Zi,Zj,Zk,Zl,Zm,Zn,Zo,Ja,Jb,Jc,J6,Jd,Je,J7,J8,Jf,Jg,Jh,Ji,Jj,Jk,J9,Jl,Jm,wr,Jn,JA,JB,Jo,Jp,Jq,Jr,Js,Jt,Ju,Jv,Jw,Jx,Jy,Jz,J0,J1,J2,J3,J4,J5,reduceCtorEq,JC,JD,JE,JF,JG,JH,JI,JJ]) | ((with_reducible (first | apply Ok.br | apply Ok.gd | apply Ok.ld)) <;> (intro g; (try simp only [ZGS] at g); try (exfalso; omega)))))
      exact hQ'.out _ (by rw [hm'.out, Bool.false_and])
end Go.Ev
set_option maxRecDepth 100000
namespace Go.Ev
open Go.Ev renaming exPure -> Ja, ofValue -> Jb, cellsV -> Jc, load -> Jd, store -> Je, binOp -> Jf, intOp -> Jg, rdV -> Jh, vsame -> Ji, vsames -> Jj, makeSliceV -> Jk, resV -> Jl, isCell -> Jm, nilCheckV -> Jn, allV -> Jo, builtinV -> Jp, lenV -> Jq, indexAddrV -> Jr, unOp -> Js, minmaxV -> Jt, minmax -> Ju, sliceV -> Jv, asInt -> Jw, appendV -> Jx, forkB -> Jy, roY -> Jz, rwB -> J0, copyV -> J1, clearV -> J2, convV -> J3, sliceCells -> J4, shift -> J5
open Bool renaming true -> BT, false -> BF
open Nat renaming reduceEqDiff -> J6, reduceLT -> J7, reduceAdd -> J8, reduceBEq -> J9, reduceSub -> JA, reduceMul -> JB, reduceLeDiff -> JJ
open Int renaming reduceLT -> JC, reduceLE -> JD, reduceAdd -> JE, reduceSub -> JF, reduceNeg -> JG, reduceToNat -> JH, reduceEq -> JI
open Go.Proofs
theorem strEq_refl (s : ByteArray) : strEq s s = true := by unfold strEq; simp
theorem strEq_ne {x y : ByteArray} (h : ¬ x = y) : strEq x y = false := by
  unfold strEq
  refine decide_eq_false fun e => h ?_
  cases x with | mk a => cases y with | mk b =>
  cases a with | mk a => cases b with | mk b =>
  simp only at e
  rw [e]
theorem equalR_at {h : Heap} {v w : V} {l m : List RP} (hr : RowAt h v l) (hs : RowAt h w m) : D X (.fn 82 []) [v, w] h = some (.bool (decide (l = m)), h) := by
  refine Ok.eq ?_
  refine Ok.aim fun Q hQ => ?_
  have hQ' := Hid.mk hQ
  clear hQ
  obtain ⟨a, cap, z, rfl, h1, h1', h2⟩ := hr
  obtain ⟨a2, cap2, z2, rfl, h3, h3', h4⟩ := hs
  by_cases hlen : l.length = m.length
  · have hlen' : (l.length : Int) = (m.length : Int) := by omega
    (refine Ok.body body82 pin82 ?_; simp only [c82,Tryz.f82,Option.getD_some,nslot82,List.append_nil,List.map,List.replicate,List.length_cons,List.length_nil,Nat.reduceAdd,Nat.reduceSub,List.cons_append,List.nil_append])
    (repeat' (first | (simp -implicitDefEqProofs (maxSteps := 1000000) (disch := first | assumption | omega | (simp only [ZDI]; omega)) only [*,lenV,G82,Za,Zb,Zc,Zd,Ze,Zf,Zg,Zh,Zi,Zj,Zk,Zl,Zm,Zn,Zo,Ja,Jb,Jc,J6,Jd,Je,J7,J8,Jf,Jg,Jh,Ji,Jj,Jk,J9,Jl,Jm,wr,Jn,JA,JB,Jo,Jp,Jq,Jr,Js,Jt,Ju,Jv,Jw,Jx,Jy,Jz,J0,J1,J2,J3,J4,J5,reduceCtorEq,JC,JD,JE,JF,JG,JH,JI,JJ]) | ((with_reducible (first | apply Ok.br | apply Ok.gd | apply Ok.ld)) <;> (intro g; (try simp only [ZGS] at g); try (exfalso; omega)))))
    refine Ok.loop [BF, BF, BF, BF, BT, BT, BF, BF, BF, BF, BF, BF, BF, BT, BT, BT, BT, BT, BT, BT, BT, BT, BT, BT, BT, BT] (fun n s2 => ∃ (i : Nat), n = l.length - i /\ i <= l.length /\ tv s2.e 13 = .v (.int .i64 i) /\ s2.l = [] /\ s2.h = h /\ l.take i = m.take i)
      (fun y s2 => s2.h = h /\ s2.l = [] /\ ((y = .exit 0 /\ l = m) \/ (y = .ret /\ l ≠ m /\ tv s2.e 4 = .v (.bool false)))) (l.length - 0) ⟨0, rfl, Nat.zero_le _, rfl, rfl, rfl, by simp⟩ ?_ ?_
    · intro n ⟨e', l', H'⟩ hW ⟨i, hm, hi, h9, k2, k3, hno⟩
      dsimp only at hW h9 k2 k3
      subst l' H'
      rw [hW.spread]
      simp only [spread_t,spread_f,spread_n,Nat.zero_add,Nat.reduceAdd,h9]
      clear hW hQ'
      have hno' := Hid.mk hno
      clear hno
      by_cases hlt : i < l.length
      · have hlt' : (i : Int) < (m.length : Int) := by omega
        have g1 : 0 <= (i : Int) /\ (i : Int) < (m.length : Int) := by omega
        rcases h2 with rfl | ⟨b, g, o, rw, full, rfl, hb, hfull, ho⟩
        · simp at hlt
        · rcases h4 with rfl | ⟨b2, g2, o2, rw2, full2, rfl, hb2, hfull2, ho2⟩
          · simp at hlen; subst hlen; simp at hlt
          · obtain ⟨y, hy⟩ : ∃ y, l[i]? = some y := ⟨_, List.getElem?_eq_getElem hlt⟩
            obtain ⟨x, hx⟩ : ∃ y, m[i]? = some y := ⟨_, List.getElem?_eq_getElem (by omega)⟩
            have hf := hfull i y hy
            have hf2 := hfull2 i x hx
            have hy' := Hid.mk hy
            have hx' := Hid.mk hx
            clear hy hfull hx hfull2
            by_cases hxy : y = x
            · subst hxy
              (repeat' (first | (simp -implicitDefEqProofs (maxSteps := 1000000) (disch := first | assumption | omega | (simp only [ZDI]; omega)) only [*,lenV,eq_self,G82,Za,Zb,Zc,Zd,Ze,Zf,Zg,Zh,Zi,Zj,Zk,Zl,Zm,Zn,Zo,Ja,Jb,Jc,J6,Jd,Je,J7,J8,Jf,Jg,Jh,Ji,Jj,Jk,J9,Jl,Jm,wr,Jn,JA,JB,Jo,Jp,Jq,Jr,Js,Jt,Ju,Jv,Jw,Jx,Jy,Jz,J0,J1,J2,J3,J4,J5,reduceCtorEq,JC,JD,JE,JF,JG,JH,JI,JJ]) | ((with_reducible (first | apply Ok.br | apply Ok.gd | apply Ok.ld)) <;> (intro g; (try simp only [ZGS] at g); try (exfalso; omega)))))
              refine Turn.next (l.length - (i + 1)) (by omega) ⟨rfl, i + 1, by omega, by omega, rfl, rfl, rfl, ?_⟩
              rw [List.take_add_one, List.take_add_one, hy'.out, hx'.out, hno'.out]
            · have hnx : ∀ P : Prop, (¬ y.1 = x.1 -> P) -> (y.1 = x.1 -> ¬ y.2 = x.2 -> P) -> P := fun P p q => by
                by_cases h1 : y.1 = x.1
                · exact q h1 fun h2 => hxy (Prod.ext h1 h2)
                · exact p h1
              have hno2 : l ≠ m := by
                rintro rfl
                have := hy'.out
                rw [hx'.out] at this
                exact hxy (Option.some.inj this).symm
              have hno3 := Hid.mk hno2
              clear hno2 hxy
              apply hnx <;> clear hnx
              · intro hn1
                (repeat' (first | (simp -implicitDefEqProofs (maxSteps := 1000000) (disch := first | assumption | omega | (simp only [ZDI]; omega)) only [*,lenV,G82,Za,Zb,Zc,Zd,Ze,Zf,Zg,Zh,Zi,Zj,Zk,Zl,Zm,Zn,Zo,Ja,Jb,Jc,J6,Jd,Je,J7,J8,Jf,Jg,Jh,Ji,Jj,Jk,J9,Jl,Jm,wr,Jn,JA,JB,Jo,Jp,Jq,Jr,Js,Jt,Ju,Jv,Jw,Jx,Jy,Jz,J0,J1,J2,J3,J4,J5,reduceCtorEq,JC,JD,JE,JF,JG,JH,JI,JJ]) | ((with_reducible (first | apply Ok.br | apply Ok.gd | apply Ok.ld)) <;> (intro g; (try simp only [ZGS] at g); try (exfalso; omega)))))
                exact Turn.ret ⟨rfl, rfl, rfl, .inr ⟨rfl, hno3.out, rfl⟩⟩
              · intro hn1 hn2
                (repeat' (first | (simp -implicitDefEqProofs (maxSteps := 1000000) (disch := first | assumption | omega | (simp only [ZDI]; omega)) only [*,lenV,G82,Za,Zb,Zc,Zd,Ze,Zf,Zg,Zh,Zi,Zj,Zk,Zl,Zm,Zn,Zo,Ja,Jb,Jc,J6,Jd,Je,J7,J8,Jf,Jg,Jh,Ji,Jj,Jk,J9,Jl,Jm,wr,Jn,JA,JB,Jo,Jp,Jq,Jr,Js,Jt,Ju,Jv,Jw,Jx,Jy,Jz,J0,J1,J2,J3,J4,J5,reduceCtorEq,JC,JD,JE,JF,JG,JH,JI,JJ]) | ((with_reducible (first | apply Ok.br | apply Ok.gd | apply Ok.ld)) <;> (intro g; (try simp only [ZGS] at g); try (exfalso; omega)))))
                exact Turn.ret ⟨rfl, rfl, rfl, .inr ⟨rfl, hno3.out, rfl⟩⟩
      · have hlt' : ¬ (i : Int) < (m.length : Int) := by omega
        (repeat' (first | (simp -implicitDefEqProofs (maxSteps := 1000000) (disch := first | assumption | omega | (simp only [ZDI]; omega)) only [*,lenV,G82,Za,Zb,Zc,Zd,Ze,Zf,Zg,Zh,Zi,Zj,Zk,Zl,Zm,Zn,Zo,Ja,Jb,Jc,J6,Jd,Je,J7,J8,Jf,Jg,Jh,Ji,Jj,Jk,J9,Jl,Jm,wr,Jn,JA,JB,Jo,Jp,Jq,Jr,Js,Jt,Ju,Jv,Jw,Jx,Jy,Jz,J0,J1,J2,J3,J4,J5,reduceCtorEq,JC,JD,JE,JF,JG,JH,JI,JJ]) | ((with_reducible (first | apply Ok.br | apply Ok.gd | apply Ok.ld)) <;> (intro g; (try simp only [ZGS] at g); try (exfalso; omega)))))
        refine Turn.exit ⟨rfl, rfl, rfl, .inl ⟨rfl, ?_⟩⟩
        have := hno'.out
        rwa [List.take_of_length_le (by omega), List.take_of_length_le (by omega)] at this
    · intro y ⟨e', l', H'⟩ hW ⟨k3, k2, hy⟩
      dsimp only at hW k2 k3 hy
      subst l' H'
      rw [hW.spread]
      clear hW
      rcases hy with ⟨rfl, hm⟩ | ⟨rfl, hm, h4⟩
      · simp only [spread_t,spread_f,spread_n,Nat.zero_add,Nat.reduceAdd]
        (repeat' (first | (simp -implicitDefEqProofs (maxSteps := 1000000) (disch := first | assumption | omega | (simp only [ZDI]; omega)) only [*,G82,Za,Zb,Zc,Zd,Ze,Zf,Zg,Zh,Zi,Zj,Zk,Zl,Zm,Zn,Zo,Ja,Jb,Jc,J6,Jd,Je,J7,J8,Jf,Jg,Jh,Ji,Jj,Jk,J9,Jl,Jm,wr,Jn,JA,JB,Jo,Jp,Jq,Jr,Js,Jt,Ju,Jv,Jw,Jx,Jy,Jz,J0,J1,J2,J3,J4,J5,reduceCtorEq,JC,JD,JE,JF,JG,JH,JI,JJ]) | ((with_reducible (first | apply Ok.br | apply Ok.gd | apply Ok.ld)) <;> (intro g; (try simp only [ZGS] at g); try (exfalso; omega)))))
        exact hQ'.out _ (by rw [decide_eq_true hm])
      · simp only [spread_t,spread_f,spread_n,Nat.zero_add,Nat.reduceAdd,h4]
        (repeat' (first | (simp -implicitDefEqProofs (maxSteps := 1000000) (disch := first | assumption | omega | (simp only [ZDI]; omega)) only [*,G82,Za,Zb,Zc,Zd,Ze,Zf,Zg,Zh,Zi,Zj,Zk,Zl,Zm,Zn,Zo,Ja,Jb,Jc,J6,Jd,Je,J7,J8,Jf,Jg,Jh,Ji,Jj,Jk,J9,Jl,Jm,wr,Jn,JA,JB,Jo,Jp,Jq,Jr,Js,Jt,Ju,Jv,Jw,Jx,Jy,Jz,J0,J1,J2,J3,J4,J5,reduceCtorEq,JC,JD,JE,JF,JG,JH,JI,JJ]) | ((with_reducible (first | apply Ok.br | apply Ok.gd | apply Ok.ld)) <;> (intro g; (try simp only [ZGS] at g); try (exfalso; omega)))))
        exact hQ'.out _ (by rw [decide_eq_false hm])
  · have hlen' : ¬ (l.length : Int) = (m.length : Int) := by omega
    (refine Ok.body body82 pin82 ?_; simp only [c82,Tryz.f82,Option.getD_some,nslot82,List.append_nil,List.map,List.replicate,List.length_cons,List.length_nil,Nat.reduceAdd,Nat.reduceSub,List.cons_append,List.nil_append])
    (repeat' (first | (simp -implicitDefEqProofs (maxSteps := 1000000) (disch := first | assumption | omega | (simp only [ZDI]; omega)) only [*,lenV,G82,Za,Zb,Zc,Zd,Ze,Zf,Zg,Zh,Zi,Zj,Zk,Zl,Zm,Zn,Zo,Ja,Jb,Jc,J6,Jd,Je,J7,J8,Jf,Jg,Jh,Ji,Jj,Jk,J9,Jl,Jm,wr,Jn,JA,JB,Jo,Jp,Jq,Jr,Js,Jt,Ju,Jv,Jw,Jx,Jy,Jz,J0,J1,J2,J3,J4,J5,reduceCtorEq,JC,JD,JE,JF,JG,JH,JI,JJ]) | ((with_reducible (first | apply Ok.br | apply Ok.gd | apply Ok.ld)) <;> (intro g; (try simp only [ZGS] at g); try (exfalso; omega)))))
    exact hQ'.out _ (by rw [decide_eq_false]; rintro rfl; exact hlen rfl)
theorem equalS_at {h : Heap} {v w : V} {l m : List ByteArray} (hr : StrsAt h v l) (hs : StrsAt h w m) : D X (.fn 132 []) [v, w] h = some (.bool (decide (l = m)), h) := by
  refine Ok.eq ?_
  refine Ok.aim fun Q hQ => ?_
  have hQ' := Hid.mk hQ
  clear hQ
  obtain ⟨a, cap, z, rfl, h1, _, h2⟩ := hr
  obtain ⟨a2, cap2, z2, rfl, h3, _, h4⟩ := hs
  by_cases hlen : l.length = m.length
  · rw [hlen]
    have h2' := Hid.mk h2
    have h4' := Hid.mk h4
    clear h2 h4
    (refine Ok.body body132 pin132 ?_; simp only [c132,Tryz.f132,Option.getD_some,nslot132,List.append_nil,List.map,List.replicate,List.length_cons,List.length_nil,Nat.reduceAdd,Nat.reduceSub,List.cons_append,List.nil_append])
    (repeat' (first | (simp -implicitDefEqProofs (maxSteps := 1000000) (disch := first | assumption | omega | (simp only [ZDI]; omega)) only [*,lenV,eq_self,G132,Za,Zb,Zc,Zd,Ze,Zf,Zg,Zh,Zi,Zj,Zk,Zl,Zm,Zn,Zo,Ja,Jb,Jc,J6,Jd,Je,J7,J8,Jf,Jg,Jh,Ji,Jj,Jk,J9,Jl,Jm,wr,Jn,JA,JB,Jo,Jp,Jq,Jr,Js,Jt,Ju,Jv,Jw,Jx,Jy,Jz,J0,J1,J2,J3,J4,J5,reduceCtorEq,JC,JD,JE,JF,JG,JH,JI,JJ]) | ((with_reducible (first | apply Ok.br | apply Ok.gd | apply Ok.ld)) <;> (intro g; (try simp only [ZGS] at g); try (exfalso; omega)))))
    refine Ok.loop [BF, BF, BF, BF, BT, BT, BF, BF, BF, BF, BF, BF, BF, BT, BT, BT, BT, BT, BT, BT, BT, BT, BT, BT, BT, BT] (fun n s2 => ∃ (i : Nat), n = l.length - i /\ i <= l.length /\ tv s2.e 13 = .v (.int .i64 i) /\ s2.l = [] /\ s2.h = h /\ l.take i = m.take i)
      (fun y s2 => s2.h = h /\ s2.l = [] /\ ((y = .exit 0 /\ l = m) \/ (y = .ret /\ l ≠ m /\ tv s2.e 4 = .v (.bool false)))) (l.length - 0) ⟨0, rfl, Nat.zero_le _, rfl, rfl, rfl, by simp⟩ ?_ ?_
    · intro n ⟨e', l', H'⟩ hW ⟨i, hm, hi, h9, k2, k3, hno⟩
      dsimp only at hW h9 k2 k3
      subst l' H'
      rw [hW.spread]
      simp only [spread_t,spread_f,spread_n,Nat.zero_add,Nat.reduceAdd,h9]
      clear hW hQ'
      have hno' := Hid.mk hno
      clear hno
      by_cases hlt : i < l.length
      · have hlt' : (i : Int) < (m.length : Int) := by omega
        rcases h2'.out with rfl | ⟨b, g, oo, rw, full, rfl, hb, hfull⟩
        · simp at hlt
        · rcases h4'.out with rfl | ⟨b2, g2, o2, rw2, full2, rfl, hb2, hfull2⟩
          · simp at hlen; subst hlen; simp at hlt
          · obtain ⟨y, hy⟩ : ∃ y, l[i]? = some y := ⟨_, List.getElem?_eq_getElem hlt⟩
            obtain ⟨x, hx⟩ : ∃ y, m[i]? = some y := ⟨_, List.getElem?_eq_getElem (by omega)⟩
            have hf := hfull i y hy
            have hf2 := hfull2 i x hx
            have hy' := Hid.mk hy
            have hx' := Hid.mk hx
            clear hy hfull hx hfull2
            by_cases hxy : y = x
            · subst hxy
              (repeat' (first | (simp -implicitDefEqProofs (maxSteps := 1000000) (disch := first | assumption | omega | (simp only [ZDI]; omega)) only [*,lenV,strEq_refl,G132,Za,Zb,Zc,Zd,Ze,Zf,Zg,Zh,Zi,Zj,Zk,Zl,Zm,Zn,Zo,Ja,Jb,Jc,J6,Jd,Je,J7,J8,Jf,Jg,Jh,Ji,Jj,Jk,J9,Jl,Jm,wr,Jn,JA,JB,Jo,Jp,Jq,Jr,Js,Jt,Ju,Jv,Jw,Jx,Jy,Jz,J0,J1,J2,J3,J4,J5,reduceCtorEq,JC,JD,JE,JF,JG,JH,JI,JJ]) | ((with_reducible (first | apply Ok.br | apply Ok.gd | apply Ok.ld)) <;> (intro g; (try simp only [ZGS] at g); try (exfalso; omega)))))
              refine Turn.next (l.length - (i + 1)) (by omega) ⟨rfl, i + 1, by omega, by omega, rfl, rfl, rfl, ?_⟩
              rw [List.take_add_one, List.take_add_one, hy'.out, hx'.out, hno'.out]
            · have hno2 : l ≠ m := by
                rintro rfl
                have := hy'.out
                rw [hx'.out] at this
                exact hxy (Option.some.inj this).symm
              have hno3 := Hid.mk hno2
              have hse := strEq_ne hxy
              clear hno2 hxy
              (repeat' (first | (simp -implicitDefEqProofs (maxSteps := 1000000) (disch := first | assumption | omega | (simp only [ZDI]; omega)) only [*,lenV,G132,Za,Zb,Zc,Zd,Ze,Zf,Zg,Zh,Zi,Zj,Zk,Zl,Zm,Zn,Zo,Ja,Jb,Jc,J6,Jd,Je,J7,J8,Jf,Jg,Jh,Ji,Jj,Jk,J9,Jl,Jm,wr,Jn,JA,JB,Jo,Jp,Jq,Jr,Js,Jt,Ju,Jv,Jw,Jx,Jy,Jz,J0,J1,J2,J3,J4,J5,reduceCtorEq,JC,JD,JE,JF,JG,JH,JI,JJ]) | ((with_reducible (first | apply Ok.br | apply Ok.gd | apply Ok.ld)) <;> (intro g; (try simp only [ZGS] at g); try (exfalso; omega)))))
              exact Turn.ret ⟨rfl, rfl, rfl, .inr ⟨rfl, hno3.out, rfl⟩⟩
      · have hlt' : ¬ (i : Int) < (m.length : Int) := by omega
        (repeat' (first | (simp -implicitDefEqProofs (maxSteps := 1000000) (disch := first | assumption | omega | (simp only [ZDI]; omega)) only [*,lenV,G132,Za,Zb,Zc,Zd,Ze,Zf,Zg,Zh,Zi,Zj,Zk,Zl,Zm,Zn,Zo,Ja,Jb,Jc,J6,Jd,Je,J7,J8,Jf,Jg,Jh,Ji,Jj,Jk,J9,Jl,Jm,wr,Jn,JA,JB,Jo,Jp,Jq,Jr,Js,Jt,Ju,Jv,Jw,Jx,Jy,Jz,J0,J1,J2,J3,J4,J5,reduceCtorEq,JC,JD,JE,JF,JG,JH,JI,JJ]) | ((with_reducible (first | apply Ok.br | apply Ok.gd | apply Ok.ld)) <;> (intro g; (try simp only [ZGS] at g); try (exfalso; omega)))))
        refine Turn.exit ⟨rfl, rfl, rfl, .inl ⟨rfl, ?_⟩⟩
        have := hno'.out
        rwa [List.take_of_length_le (by omega), List.take_of_length_le (by omega)] at this
    · intro y ⟨e', l', H'⟩ hW ⟨k3, k2, hy⟩
      dsimp only at hW k2 k3 hy
      subst l' H'
      rw [hW.spread]
      clear hW
      rcases hy with ⟨rfl, hm⟩ | ⟨rfl, hm, h4⟩
      · simp only [spread_t,spread_f,spread_n,Nat.zero_add,Nat.reduceAdd]
        (repeat' (first | (simp -implicitDefEqProofs (maxSteps := 1000000) (disch := first | assumption | omega | (simp only [ZDI]; omega)) only [*,G132,Za,Zb,Zc,Zd,Ze,Zf,Zg,Zh,Zi,Zj,Zk,Zl,Zm,Zn,Zo,Ja,Jb,Jc,J6,Jd,Je,J7,J8,Jf,Jg,Jh,Ji,Jj,Jk,J9,Jl,Jm,wr,Jn,JA,JB,Jo,Jp,Jq,Jr,Js,Jt,Ju,Jv,Jw,Jx,Jy,Jz,J0,J1,J2,J3,J4,J5,reduceCtorEq,JC,JD,JE,JF,JG,JH,JI,JJ]) | ((with_reducible (first | apply Ok.br | apply Ok.gd | apply Ok.ld)) <;> (intro g; (try simp only [ZGS] at g); try (exfalso; omega)))))
        exact hQ'.out _ (by rw [decide_eq_true hm])
      · simp only [spread_t,spread_f,spread_n,Nat.zero_add,Nat.reduceAdd,h4]
        (repeat' (first | (simp -implicitDefEqProofs (maxSteps := 1000000) (disch := first | assumption | omega | (simp only [ZDI]; omega)) only [*,G132,Za,Zb,Zc,Zd,Ze,Zf,Zg,Zh,Zi,Zj,Zk,Zl,Zm,Zn,Zo,Ja,Jb,Jc,J6,Jd,Je,J7,J8,Jf,Jg,Jh,Ji,Jj,Jk,J9,Jl,Jm,wr,Jn,JA,JB,Jo,Jp,Jq,Jr,Js,Jt,Ju,Jv,Jw,Jx,Jy,Jz,J0,J1,J2,J3,J4,J5,reduceCtorEq,JC,JD,JE,JF,JG,JH,JI,JJ]) | ((with_reducible (first | apply Ok.br | apply Ok.gd | apply Ok.ld)) <;> (intro g; (try simp only [ZGS] at g); try (exfalso; omega)))))
        exact hQ'.out _ (by rw [decide_eq_false hm])
  · have hlen' : ¬ (l.length : Int) = (m.length : Int) := by omega
    (refine Ok.body body132 pin132 ?_; simp only [c132,Tryz.f132,Option.getD_some,nslot132,List.append_nil,List.map,List.replicate,List.length_cons,List.length_nil,Nat.reduceAdd,Nat.reduceSub,List.cons_append,List.nil_append])
    (repeat' (first | (simp -implicitDefEqProofs (maxSteps := 1000000) (disch := first | assumption | omega | (simp only [ZDI]; omega)) only [*,lenV,eq_self,G132,Za,Zb,Zc,Zd,Ze,Zf,Zg,Zh,Zi,Zj,Zk,Zl,Zm,Zn,Zo,Ja,Jb,Jc,J6,Jd,Je,J7,J8,Jf,Jg,Jh,Ji,Jj,Jk,J9,Jl,Jm,wr,Jn,JA,JB,Jo,Jp,Jq,Jr,Js,Jt,Ju,Jv,Jw,Jx,Jy,Jz,J0,J1,J2,J3,J4,J5,reduceCtorEq,JC,JD,JE,JF,JG,JH,JI,JJ]) | ((with_reducible (first | apply Ok.br | apply Ok.gd | apply Ok.ld)) <;> (intro g; (try simp only [ZGS] at g); try (exfalso; omega)))))
    exact hQ'.out _ (by rw [decide_eq_false]; rintro rfl; exact hlen rfl)
theorem rSameCmdEq_at {h : Heap} {o c q f t : Int} {v w : V} {l m : List ByteArray} (hr : StrsAt h v l) (hs : StrsAt h w m) : D X (.fn 31 []) [.agg [.int .i64 o, .int .i64 c, .int .i64 q, .int .i64 f, .int .i64 t, v], .agg [.int .i64 o, .int .i64 c, .int .i64 q, .int .i64 f, .int .i64 t, w]] h = some (.bool (decide (l = m)), h) := by
  refine Ok.eq ?_
  refine Ok.aim fun Q hQ => ?_
  have hQ' := Hid.mk hQ
  clear hQ
  obtain ⟨a, cap, z, rfl, h1, _, h2⟩ := hr
  obtain ⟨a2, cap2, z2, rfl, h3, _, h4⟩ := hs
  by_cases hlen : l.length = m.length
  · rw [hlen]
    have h2' := Hid.mk h2
    have h4' := Hid.mk h4
    clear h2 h4
    (refine Ok.body body31 pin31 ?_; simp only [c31,Tryz.f31,Option.getD_some,nslot31,List.append_nil,List.map,List.replicate,List.length_cons,List.length_nil,Nat.reduceAdd,Nat.reduceSub,List.cons_append,List.nil_append])
    (repeat' (first | (simp -implicitDefEqProofs (maxSteps := 1000000) (disch := first | assumption | omega | (simp only [ZDI]; omega)) only [*,lenV,eq_self,G31,Za,Zb,Zc,Zd,Ze,Zf,Zg,Zh,Zi,Zj,Zk,Zl,Zm,Zn,Zo,Ja,Jb,Jc,J6,Jd,Je,J7,J8,Jf,Jg,Jh,Ji,Jj,Jk,J9,Jl,Jm,wr,Jn,JA,JB,Jo,Jp,Jq,Jr,Js,Jt,Ju,Jv,Jw,Jx,Jy,Jz,J0,J1,J2,J3,J4,J5,reduceCtorEq,JC,JD,JE,JF,JG,JH,JI,JJ]) | ((with_reducible (first | apply Ok.br | apply Ok.gd | apply Ok.ld)) <;> (intro g; (try simp only [ZGS] at g); try (exfalso; omega)))))
    refine Ok.loop [BF, BF, BF, BF, BT, BT, BF, BF, BF, BF, BF, BF, BF, BF, BF, BF, BF, BF, BF, BF, BF, BF, BF, BF, BF, BF, BF, BF, BF, BF, BF, BF, BF, BF, BF, BF, BF, BF, BF, BF, BF, BF, BF, BF, BF, BF, BF, BF, BF, BF, BF, BT, BT, BT, BT, BT, BT, BT, BT, BT, BT, BT, BT, BT, BT, BT] (fun n s2 => ∃ (i : Nat), n = l.length - i /\ i <= l.length /\ tv s2.e 51 = .v (.int .i64 i) /\ s2.l = [(1, [.int .i64 o, .int .i64 c, .int .i64 q, .int .i64 f, .int .i64 t, .sl a m.length cap z]), (1, [.int .i64 o, .int .i64 c, .int .i64 q, .int .i64 f, .int .i64 t, .sl a2 m.length cap2 z2])] /\ s2.h = h /\ l.take i = m.take i)
      (fun y s2 => s2.h = h /\ s2.l = [(1, [.int .i64 o, .int .i64 c, .int .i64 q, .int .i64 f, .int .i64 t, .sl a m.length cap z]), (1, [.int .i64 o, .int .i64 c, .int .i64 q, .int .i64 f, .int .i64 t, .sl a2 m.length cap2 z2])] /\ ((y = .exit 0 /\ l = m) \/ (y = .ret /\ l ≠ m /\ tv s2.e 4 = .v (.bool false)))) (l.length - 0) ⟨0, rfl, Nat.zero_le _, rfl, rfl, rfl, by simp⟩ ?_ ?_
    · intro n ⟨e', l', H'⟩ hW ⟨i, hm, hi, h9, k2, k3, hno⟩
      dsimp only at hW h9 k2 k3
      subst l' H'
      rw [hW.spread]
      simp only [spread_t,spread_f,spread_n,Nat.zero_add,Nat.reduceAdd,h9]
      clear hW hQ'
      have hno' := Hid.mk hno
      clear hno
      by_cases hlt : i < l.length
      · have hlt' : (i : Int) < (m.length : Int) := by omega
        rcases h2'.out with rfl | ⟨b, g, oo, rw, full, rfl, hb, hfull⟩
        · simp at hlt
        · rcases h4'.out with rfl | ⟨b2, g2, o2, rw2, full2, rfl, hb2, hfull2⟩
          · simp at hlen; subst hlen; simp at hlt
          · obtain ⟨y, hy⟩ : ∃ y, l[i]? = some y := ⟨_, List.getElem?_eq_getElem hlt⟩
            obtain ⟨x, hx⟩ : ∃ y, m[i]? = some y := ⟨_, List.getElem?_eq_getElem (by omega)⟩
            have hf := hfull i y hy
            have hf2 := hfull2 i x hx
            have hy' := Hid.mk hy
            have hx' := Hid.mk hx
            clear hy hfull hx hfull2
            by_cases hxy : y = x
            · subst hxy
              (repeat' (first | (simp -implicitDefEqProofs (maxSteps := 1000000) (disch := first | assumption | omega | (simp only [ZDI]; omega)) only [*,lenV,strEq_refl,G31,Za,Zb,Zc,Zd,Ze,Zf,Zg,Zh,Zi,Zj,Zk,Zl,Zm,Zn,Zo,Ja,Jb,Jc,J6,Jd,Je,J7,J8,Jf,Jg,Jh,Ji,Jj,Jk,J9,Jl,Jm,wr,Jn,JA,JB,Jo,Jp,Jq,Jr,Js,Jt,Ju,Jv,Jw,Jx,Jy,Jz,J0,J1,J2,J3,J4,J5,reduceCtorEq,JC,JD,JE,JF,JG,JH,JI,JJ]) | ((with_reducible (first | apply Ok.br | apply Ok.gd | apply Ok.ld)) <;> (intro g; (try simp only [ZGS] at g); try (exfalso; omega)))))
              refine Turn.next (l.length - (i + 1)) (by omega) ⟨rfl, i + 1, by omega, by omega, rfl, rfl, rfl, ?_⟩
              rw [List.take_add_one, List.take_add_one, hy'.out, hx'.out, hno'.out]
            · have hno2 : l ≠ m := by
                rintro rfl
                have := hy'.out
                rw [hx'.out] at this
                exact hxy (Option.some.inj this).symm
              have hno3 := Hid.mk hno2
              have hse := strEq_ne hxy
              clear hno2 hxy
              (repeat' (first | (simp -implicitDefEqProofs (maxSteps := 1000000) (disch := first | assumption | omega | (simp only [ZDI]; omega)) only [*,lenV,G31,Za,Zb,Zc,Zd,Ze,Zf,Zg,Zh,Zi,Zj,Zk,Zl,Zm,Zn,Zo,Ja,Jb,Jc,J6,Jd,Je,J7,J8,Jf,Jg,Jh,Ji,Jj,Jk,J9,Jl,Jm,wr,Jn,JA,JB,Jo,Jp,Jq,Jr,Js,Jt,Ju,Jv,Jw,Jx,Jy,Jz,J0,J1,J2,J3,J4,J5,reduceCtorEq,JC,JD,JE,JF,JG,JH,JI,JJ]) | ((with_reducible (first | apply Ok.br | apply Ok.gd | apply Ok.ld)) <;> (intro g; (try simp only [ZGS] at g); try (exfalso; omega)))))
              exact Turn.ret ⟨rfl, rfl, rfl, .inr ⟨rfl, hno3.out, rfl⟩⟩
      · have hlt' : ¬ (i : Int) < (m.length : Int) := by omega
        (repeat' (first | (simp -implicitDefEqProofs (maxSteps := 1000000) (disch := first | assumption | omega | (simp only [ZDI]; omega)) only [*,lenV,G31,Za,Zb,Zc,Zd,Ze,Zf,Zg,Zh,Zi,Zj,Zk,Zl,Zm,Zn,Zo,Ja,Jb,Jc,J6,Jd,Je,J7,J8,Jf,Jg,Jh,Ji,Jj,Jk,J9,Jl,Jm,wr,Jn,JA,JB,Jo,Jp,Jq,Jr,Js,Jt,Ju,Jv,Jw,Jx,Jy,Jz,J0,J1,J2,J3,J4,J5,reduceCtorEq,JC,JD,JE,JF,JG,JH,JI,JJ]) | ((with_reducible (first | apply Ok.br | apply Ok.gd | apply Ok.ld)) <;> (intro g; (try simp only [ZGS] at g); try (exfalso; omega)))))
        refine Turn.exit ⟨rfl, rfl, rfl, .inl ⟨rfl, ?_⟩⟩
        have := hno'.out
        rwa [List.take_of_length_le (by omega), List.take_of_length_le (by omega)] at this
    · intro y ⟨e', l', H'⟩ hW ⟨k3, k2, hy⟩
      dsimp only at hW k2 k3 hy
      subst l' H'
      rw [hW.spread]
      clear hW
      rcases hy with ⟨rfl, hm⟩ | ⟨rfl, hm, h4⟩
      · simp only [spread_t,spread_f,spread_n,Nat.zero_add,Nat.reduceAdd]
        (repeat' (first | (simp -implicitDefEqProofs (maxSteps := 1000000) (disch := first | assumption | omega | (simp only [ZDI]; omega)) only [*,G31,Za,Zb,Zc,Zd,Ze,Zf,Zg,Zh,Zi,Zj,Zk,Zl,Zm,Zn,Zo,Ja,Jb,Jc,J6,Jd,Je,J7,J8,Jf,Jg,Jh,Ji,Jj,Jk,J9,Jl,Jm,wr,Jn,JA,JB,Jo,Jp,Jq,Jr,Js,Jt,Ju,Jv,Jw,Jx,Jy,Jz,J0,J1,J2,J3,J4,J5,reduceCtorEq,JC,JD,JE,JF,JG,JH,JI,JJ]) | ((with_reducible (first | apply Ok.br | apply Ok.gd | apply Ok.ld)) <;> (intro g; (try simp only [ZGS] at g); try (exfalso; omega)))))
        exact hQ'.out _ (by rw [decide_eq_true hm])
      · simp only [spread_t,spread_f,spread_n,Nat.zero_add,Nat.reduceAdd,h4]
        (repeat' (first | (simp -implicitDefEqProofs (maxSteps := 1000000) (disch := first | assumption | omega | (simp only [ZDI]; omega)) only [*,G31,Za,Zb,Zc,Zd,Ze,Zf,Zg,Zh,Zi,Zj,Zk,Zl,Zm,Zn,Zo,Ja,Jb,Jc,J6,Jd,Je,J7,J8,Jf,Jg,Jh,Ji,Jj,Jk,J9,Jl,Jm,wr,Jn,JA,JB,Jo,Jp,Jq,Jr,Js,Jt,Ju,Jv,Jw,Jx,Jy,Jz,J0,J1,J2,J3,J4,J5,reduceCtorEq,JC,JD,JE,JF,JG,JH,JI,JJ]) | ((with_reducible (first | apply Ok.br | apply Ok.gd | apply Ok.ld)) <;> (intro g; (try simp only [ZGS] at g); try (exfalso; omega)))))
        exact hQ'.out _ (by rw [decide_eq_false hm])
  · have hlen' : ¬ (l.length : Int) = (m.length : Int) := by omega
    (refine Ok.body body31 pin31 ?_; simp only [c31,Tryz.f31,Option.getD_some,nslot31,List.append_nil,List.map,List.replicate,List.length_cons,List.length_nil,Nat.reduceAdd,Nat.reduceSub,List.cons_append,List.nil_append])
    (repeat' (first | (simp -implicitDefEqProofs (maxSteps := 1000000) (disch := first | assumption | omega | (simp only [ZDI]; omega)) only [*,lenV,eq_self,G31,Za,Zb,Zc,Zd,Ze,Zf,Zg,Zh,Zi,Zj,Zk,Zl,Zm,Zn,Zo,Ja,Jb,Jc,J6,Jd,Je,J7,J8,Jf,Jg,Jh,Ji,Jj,Jk,J9,Jl,Jm,wr,Jn,JA,JB,Jo,Jp,Jq,Jr,Js,Jt,Ju,Jv,Jw,Jx,Jy,Jz,J0,J1,J2,J3,J4,J5,reduceCtorEq,JC,JD,JE,JF,JG,JH,JI,JJ]) | ((with_reducible (first | apply Ok.br | apply Ok.gd | apply Ok.ld)) <;> (intro g; (try simp only [ZGS] at g); try (exfalso; omega)))))
    exact hQ'.out _ (by rw [decide_eq_false]; rintro rfl; exact hlen rfl)
end Go.Ev
set_option maxRecDepth 100000
namespace Go.Ev
open Go.Ev renaming exPure -> Ja, ofValue -> Jb, cellsV -> Jc, load -> Jd, store -> Je, binOp -> Jf, intOp -> Jg, rdV -> Jh, vsame -> Ji, vsames -> Jj, makeSliceV -> Jk, resV -> Jl, isCell -> Jm, nilCheckV -> Jn, allV -> Jo, builtinV -> Jp, lenV -> Jq, indexAddrV -> Jr, unOp -> Js, minmaxV -> Jt, minmax -> Ju, sliceV -> Jv, asInt -> Jw, appendV -> Jx, forkB -> Jy, roY -> Jz, rwB -> J0, copyV -> J1, clearV -> J2, convV -> J3, sliceCells -> J4, shift -> J5
open Bool renaming true -> BT, false -> BF
open Nat renaming reduceEqDiff -> J6, reduceLT -> J7, reduceAdd -> J8, reduceBEq -> J9, reduceSub -> JA, reduceMul -> JB, reduceLeDiff -> JJ
open Int renaming reduceLT -> JC, reduceLE -> JD, reduceAdd -> JE, reduceSub -> JF, reduceNeg -> JG, reduceToNat -> JH, reduceEq -> JI
open Go.Proofs Go.Sort
theorem less06_at (x y : RP) (h : Heap) : D X (.fn 37 []) [.agg [.int .i64 x.1, .int .i64 x.2], .agg [.int .i64 y.1, .int .i64 y.2]] h = some (.bool (ltR x y), h) := by
  refine Ok.eq ?_
  obtain ⟨x1, x2⟩ := x
  obtain ⟨y1, y2⟩ := y
  unfold ltR
  by_cases h1 : x1 < y1
  · (refine Ok.body body37 pin37 ?_; simp only [c37,Tryz.f37,Option.getD_some,nslot37,List.append_nil,List.map,List.replicate,List.length_cons,List.length_nil,Nat.reduceAdd,Nat.reduceSub,List.cons_append,List.nil_append])
    (repeat' (first | (simp -implicitDefEqProofs (maxSteps := 1000000) (disch := first | assumption | omega | (simp only [ZDI]; omega)) only [*,lenV,G37,Za,Zb,Zc,Zd,Ze,Zf,Zg,Zh,Zi,Zj,Zk,Zl,Zm,Zn,Zo,Ja,Jb,Jc,J6,Jd,Je,J7,J8,Jf,Jg,Jh,Ji,Jj,Jk,J9,Jl,Jm,wr,Jn,JA,JB,Jo,Jp,Jq,Jr,Js,Jt,Ju,Jv,Jw,Jx,Jy,Jz,J0,J1,J2,J3,J4,J5,reduceCtorEq,JC,JD,JE,JF,JG,JH,JI,JJ]) | ((with_reducible (first | apply Ok.br | apply Ok.gd | apply Ok.ld)) <;> (intro g; (try simp only [ZGS] at g); try (exfalso; omega)))))
    all_goals simp [*]
  · by_cases h2 : x1 = y1
    · by_cases h3 : x2 < y2
      · (refine Ok.body body37 pin37 ?_; simp only [c37,Tryz.f37,Option.getD_some,nslot37,List.append_nil,List.map,List.replicate,List.length_cons,List.length_nil,Nat.reduceAdd,Nat.reduceSub,List.cons_append,List.nil_append])
        (repeat' (first | (simp -implicitDefEqProofs (maxSteps := 1000000) (disch := first | assumption | omega | (simp only [ZDI]; omega)) only [*,lenV,G37,Za,Zb,Zc,Zd,Ze,Zf,Zg,Zh,Zi,Zj,Zk,Zl,Zm,Zn,Zo,Ja,Jb,Jc,J6,Jd,Je,J7,J8,Jf,Jg,Jh,Ji,Jj,Jk,J9,Jl,Jm,wr,Jn,JA,JB,Jo,Jp,Jq,Jr,Js,Jt,Ju,Jv,Jw,Jx,Jy,Jz,J0,J1,J2,J3,J4,J5,reduceCtorEq,JC,JD,JE,JF,JG,JH,JI,JJ]) | ((with_reducible (first | apply Ok.br | apply Ok.gd | apply Ok.ld)) <;> (intro g; (try simp only [ZGS] at g); try (exfalso; omega)))))
        all_goals simp [*]
      · (refine Ok.body body37 pin37 ?_; simp only [c37,Tryz.f37,Option.getD_some,nslot37,List.append_nil,List.map,List.replicate,List.length_cons,List.length_nil,Nat.reduceAdd,Nat.reduceSub,List.cons_append,List.nil_append])
        (repeat' (first | (simp -implicitDefEqProofs (maxSteps := 1000000) (disch := first | assumption | omega | (simp only [ZDI]; omega)) only [*,lenV,G37,Za,Zb,Zc,Zd,Ze,Zf,Zg,Zh,Zi,Zj,Zk,Zl,Zm,Zn,Zo,Ja,Jb,Jc,J6,Jd,Je,J7,J8,Jf,Jg,Jh,Ji,Jj,Jk,J9,Jl,Jm,wr,Jn,JA,JB,Jo,Jp,Jq,Jr,Js,Jt,Ju,Jv,Jw,Jx,Jy,Jz,J0,J1,J2,J3,J4,J5,reduceCtorEq,JC,JD,JE,JF,JG,JH,JI,JJ]) | ((with_reducible (first | apply Ok.br | apply Ok.gd | apply Ok.ld)) <;> (intro g; (try simp only [ZGS] at g); try (exfalso; omega)))))
        all_goals simp [*]
    · (refine Ok.body body37 pin37 ?_; simp only [c37,Tryz.f37,Option.getD_some,nslot37,List.append_nil,List.map,List.replicate,List.length_cons,List.length_nil,Nat.reduceAdd,Nat.reduceSub,List.cons_append,List.nil_append])
      (repeat' (first | (simp -implicitDefEqProofs (maxSteps := 1000000) (disch := first | assumption | omega | (simp only [ZDI]; omega)) only [*,lenV,G37,Za,Zb,Zc,Zd,Ze,Zf,Zg,Zh,Zi,Zj,Zk,Zl,Zm,Zn,Zo,Ja,Jb,Jc,J6,Jd,Je,J7,J8,Jf,Jg,Jh,Ji,Jj,Jk,J9,Jl,Jm,wr,Jn,JA,JB,Jo,Jp,Jq,Jr,Js,Jt,Ju,Jv,Jw,Jx,Jy,Jz,J0,J1,J2,J3,J4,J5,reduceCtorEq,JC,JD,JE,JF,JG,JH,JI,JJ]) | ((with_reducible (first | apply Ok.br | apply Ok.gd | apply Ok.ld)) <;> (intro g; (try simp only [ZGS] at g); try (exfalso; omega)))))
      all_goals simp [*]
end Go.Ev
set_option maxRecDepth 100000
namespace Go.Ev
open Go.Ev renaming exPure -> Ja, ofValue -> Jb, cellsV -> Jc, load -> Jd, store -> Je, binOp -> Jf, intOp -> Jg, rdV -> Jh, vsame -> Ji, vsames -> Jj, makeSliceV -> Jk, resV -> Jl, isCell -> Jm, nilCheckV -> Jn, allV -> Jo, builtinV -> Jp, lenV -> Jq, indexAddrV -> Jr, unOp -> Js, minmaxV -> Jt, minmax -> Ju, sliceV -> Jv, asInt -> Jw, appendV -> Jx, forkB -> Jy, roY -> Jz, rwB -> J0, copyV -> J1, clearV -> J2, convV -> J3, sliceCells -> J4, shift -> J5
open Bool renaming true -> BT, false -> BF
open Nat renaming reduceEqDiff -> J6, reduceLT -> J7, reduceAdd -> J8, reduceBEq -> J9, reduceSub -> JA, reduceMul -> JB, reduceLeDiff -> JJ
open Int renaming reduceLT -> JC, reduceLE -> JD, reduceAdd -> JE, reduceSub -> JF, reduceNeg -> JG, reduceToNat -> JH, reduceEq -> JI
open Go.Proofs
structure In where
  (l i bn bd vn vd st : Int) (sm : Bool) (o c q f t : Int) (dv : V) (dl : List ByteArray) (sq : Int) (pv : V) (pl : List RP)
def inV (x : In) : List V := [.int .i64 x.l, .int .i64 x.i, .int .i64 x.bn, .int .i64 x.bd, .int .i64 x.vn, .int .i64 x.vd, .int .i64 x.st, .bool x.sm, .int .i64 x.o, .int .i64 x.c, .int .i64 x.q, .int .i64 x.f, .int .i64 x.t, x.dv, .int .i64 x.sq, x.pv]
def InAt (h : Heap) (x : In) : Prop := StrsAt h x.dv x.dl /\ RowAt h x.pv x.pl
theorem StrsAt.sl {h : Heap} {v : V} {l : List ByteArray} (hs : StrsAt h v l) : ∃ a cap z, v = .sl a l.length cap z := let ⟨a, cap, z, e, _⟩ := hs; ⟨a, cap, z, e⟩
theorem RowAt.sl {h : Heap} {v : V} {l : List RP} (hs : RowAt h v l) : ∃ a cap z, v = .sl a l.length cap z := let ⟨a, cap, z, e, _⟩ := hs; ⟨a, cap, z, e⟩
theorem less_at (x y : RP) (h : Heap) : D X (.fn 98 []) [.agg [.int .i64 x.1, .int .i64 x.2], .agg [.int .i64 y.1, .int .i64 y.2]] h = some (.bool (ltR x y), h) := by
  refine Ok.eq ?_
  obtain ⟨x1, x2⟩ := x
  obtain ⟨y1, y2⟩ := y
  unfold ltR
  by_cases h1 : x1 = y1
  · by_cases h2 : x2 < y2
    · (refine Ok.body body98 pin98 ?_; simp only [c98,Tryz.f98,Option.getD_some,nslot98,List.append_nil,List.map,List.replicate,List.length_cons,List.length_nil,Nat.reduceAdd,Nat.reduceSub,List.cons_append,List.nil_append])
      (repeat' (first | (simp -implicitDefEqProofs (maxSteps := 1000000) (disch := first | assumption | omega | (simp only [ZDI]; omega)) only [*,lenV,G98,Za,Zb,Zc,Zd,Ze,Zf,Zg,Zh,Zi,Zj,Zk,Zl,Zm,Zn,Zo,Ja,Jb,Jc,J6,Jd,Je,J7,J8,Jf,Jg,Jh,Ji,Jj,Jk,J9,Jl,Jm,wr,Jn,JA,JB,Jo,Jp,Jq,Jr,Js,Jt,Ju,Jv,Jw,Jx,Jy,Jz,J0,J1,J2,J3,J4,J5,reduceCtorEq,JC,JD,JE,JF,JG,JH,JI,JJ]) | ((with_reducible (first | apply Ok.br | apply Ok.gd | apply Ok.ld)) <;> (intro g; (try simp only [ZGS] at g); try (exfalso; omega)))))
      all_goals simp [*]
    · (refine Ok.body body98 pin98 ?_; simp only [c98,Tryz.f98,Option.getD_some,nslot98,List.append_nil,List.map,List.replicate,List.length_cons,List.length_nil,Nat.reduceAdd,Nat.reduceSub,List.cons_append,List.nil_append])
      (repeat' (first | (simp -implicitDefEqProofs (maxSteps := 1000000) (disch := first | assumption | omega | (simp only [ZDI]; omega)) only [*,lenV,G98,Za,Zb,Zc,Zd,Ze,Zf,Zg,Zh,Zi,Zj,Zk,Zl,Zm,Zn,Zo,Ja,Jb,Jc,J6,Jd,Je,J7,J8,Jf,Jg,Jh,Ji,Jj,Jk,J9,Jl,Jm,wr,Jn,JA,JB,Jo,Jp,Jq,Jr,Js,Jt,Ju,Jv,Jw,Jx,Jy,Jz,J0,J1,J2,J3,J4,J5,reduceCtorEq,JC,JD,JE,JF,JG,JH,JI,JJ]) | ((with_reducible (first | apply Ok.br | apply Ok.gd | apply Ok.ld)) <;> (intro g; (try simp only [ZGS] at g); try (exfalso; omega)))))
      all_goals simp [*]
  · by_cases h2 : x1 < y1
    · (refine Ok.body body98 pin98 ?_; simp only [c98,Tryz.f98,Option.getD_some,nslot98,List.append_nil,List.map,List.replicate,List.length_cons,List.length_nil,Nat.reduceAdd,Nat.reduceSub,List.cons_append,List.nil_append])
      (repeat' (first | (simp -implicitDefEqProofs (maxSteps := 1000000) (disch := first | assumption | omega | (simp only [ZDI]; omega)) only [*,lenV,G98,Za,Zb,Zc,Zd,Ze,Zf,Zg,Zh,Zi,Zj,Zk,Zl,Zm,Zn,Zo,Ja,Jb,Jc,J6,Jd,Je,J7,J8,Jf,Jg,Jh,Ji,Jj,Jk,J9,Jl,Jm,wr,Jn,JA,JB,Jo,Jp,Jq,Jr,Js,Jt,Ju,Jv,Jw,Jx,Jy,Jz,J0,J1,J2,J3,J4,J5,reduceCtorEq,JC,JD,JE,JF,JG,JH,JI,JJ]) | ((with_reducible (first | apply Ok.br | apply Ok.gd | apply Ok.ld)) <;> (intro g; (try simp only [ZGS] at g); try (exfalso; omega)))))
      all_goals simp [*]
    · (refine Ok.body body98 pin98 ?_; simp only [c98,Tryz.f98,Option.getD_some,nslot98,List.append_nil,List.map,List.replicate,List.length_cons,List.length_nil,Nat.reduceAdd,Nat.reduceSub,List.cons_append,List.nil_append])
      (repeat' (first | (simp -implicitDefEqProofs (maxSteps := 1000000) (disch := first | assumption | omega | (simp only [ZDI]; omega)) only [*,lenV,G98,Za,Zb,Zc,Zd,Ze,Zf,Zg,Zh,Zi,Zj,Zk,Zl,Zm,Zn,Zo,Ja,Jb,Jc,J6,Jd,Je,J7,J8,Jf,Jg,Jh,Ji,Jj,Jk,J9,Jl,Jm,wr,Jn,JA,JB,Jo,Jp,Jq,Jr,Js,Jt,Ju,Jv,Jw,Jx,Jy,Jz,J0,J1,J2,J3,J4,J5,reduceCtorEq,JC,JD,JE,JF,JG,JH,JI,JJ]) | ((with_reducible (first | apply Ok.br | apply Ok.gd | apply Ok.ld)) <;> (intro g; (try simp only [ZGS] at g); try (exfalso; omega)))))
      all_goals simp [*]
def refP (l i : Int) : Prop := 0 <= l /\ l < 7 /\ 1 <= i /\ i <= 1073741824
instance (l i : Int) : Decidable (refP l i) := by unfold refP; infer_instance
theorem isRef_at (l i : Int) (h : Heap) : D X (.fn 72 []) [.agg [.int .i64 l, .int .i64 i]] h = some (.bool (decide (refP l i)), h) := by
  refine Ok.eq ?_
  (refine Ok.body body72 pin72 ?_; simp only [c72,Tryz.f72,Option.getD_some,nslot72,List.append_nil,List.map,List.replicate,List.length_cons,List.length_nil,Nat.reduceAdd,Nat.reduceSub,List.cons_append,List.nil_append])
  (repeat' (first | (simp -implicitDefEqProofs (maxSteps := 1000000) (disch := first | assumption | omega | (simp only [ZDI]; omega)) only [*,G72,Za,Zb,Zc,Zd,Ze,Zf,Zg,Zh,Zi,Zj,Zk,Zl,Zm,Zn,Zo,Ja,Jb,Jc,J6,Jd,Je,J7,J8,Jf,Jg,Jh,Ji,Jj,Jk,J9,Jl,Jm,wr,Jn,JA,JB,Jo,Jp,Jq,Jr,Js,Jt,Ju,Jv,Jw,Jx,Jy,Jz,J0,J1,J2,J3,J4,J5,reduceCtorEq,JC,JD,JE,JF,JG,JH,JI,JJ]) | ((with_reducible (first | apply Ok.br | apply Ok.gd | apply Ok.ld)) <;> (intro g; (try simp only [ZGS] at g); try (exfalso; omega)))))
  all_goals (first | rfl | (exfalso; omega) | exact leaf_t (by (try unfold refP); (try simp only [Bool.and_eq_true,Bool.or_eq_true,decide_eq_true_eq,Bool.not_eq_true',decide_eq_false_iff_not,Bool.false_eq_true,Bool.true_eq_false,Bool.not_false,Bool.not_true,eq_self,iff_true,iff_false,true_iff,false_iff,false_or,true_or,or_false,or_true,true_and,and_true,false_and,and_false,not_true_eq_false,not_false_eq_true]); (first | done | omega)) | exact leaf_f (by (try unfold refP); (try simp only [Bool.and_eq_true,Bool.or_eq_true,decide_eq_true_eq,Bool.not_eq_true',decide_eq_false_iff_not,Bool.false_eq_true,Bool.true_eq_false,Bool.not_false,Bool.not_true,eq_self,iff_true,iff_false,true_iff,false_iff,false_or,true_or,or_false,or_true,true_and,and_true,false_and,and_false,not_true_eq_false,not_false_eq_true]); (first | done | omega)) | exact leaf_b (by (try unfold refP); (try simp only [Bool.and_eq_true,Bool.or_eq_true,decide_eq_true_eq,Bool.not_eq_true',decide_eq_false_iff_not,Bool.false_eq_true,Bool.true_eq_false,Bool.not_false,Bool.not_true,eq_self,iff_true,iff_false,true_iff,false_iff,false_or,true_or,or_false,or_true,true_and,and_true,false_and,and_false,not_true_eq_false,not_false_eq_true]); (first | done | omega)))
theorem mayRef_at (l i : Int) (h : Heap) : D X (.fn 27 []) [.agg [.int .i64 l, .int .i64 i]] h = some (.bool (decide (refP l i)), h) := by
  refine Ok.eq ?_
  (refine Ok.body body27 pin27 ?_; simp only [c27,Tryz.f27,Option.getD_some,nslot27,List.append_nil,List.map,List.replicate,List.length_cons,List.length_nil,Nat.reduceAdd,Nat.reduceSub,List.cons_append,List.nil_append])
  (repeat' (first | (simp -implicitDefEqProofs (maxSteps := 1000000) (disch := first | assumption | omega | (simp only [ZDI]; omega)) only [*,G27,Za,Zb,Zc,Zd,Ze,Zf,Zg,Zh,Zi,Zj,Zk,Zl,Zm,Zn,Zo,Ja,Jb,Jc,J6,Jd,Je,J7,J8,Jf,Jg,Jh,Ji,Jj,Jk,J9,Jl,Jm,wr,Jn,JA,JB,Jo,Jp,Jq,Jr,Js,Jt,Ju,Jv,Jw,Jx,Jy,Jz,J0,J1,J2,J3,J4,J5,reduceCtorEq,JC,JD,JE,JF,JG,JH,JI,JJ]) | ((with_reducible (first | apply Ok.br | apply Ok.gd | apply Ok.ld)) <;> (intro g; (try simp only [ZGS] at g); try (exfalso; omega)))))
  all_goals (first | rfl | (exfalso; omega) | exact leaf_t (by (try unfold refP); (try simp only [Bool.and_eq_true,Bool.or_eq_true,decide_eq_true_eq,Bool.not_eq_true',decide_eq_false_iff_not,Bool.false_eq_true,Bool.true_eq_false,Bool.not_false,Bool.not_true,eq_self,iff_true,iff_false,true_iff,false_iff,false_or,true_or,or_false,or_true,true_and,and_true,false_and,and_false,not_true_eq_false,not_false_eq_true]); (first | done | omega)) | exact leaf_f (by (try unfold refP); (try simp only [Bool.and_eq_true,Bool.or_eq_true,decide_eq_true_eq,Bool.not_eq_true',decide_eq_false_iff_not,Bool.false_eq_true,Bool.true_eq_false,Bool.not_false,Bool.not_true,eq_self,iff_true,iff_false,true_iff,false_iff,false_or,true_or,or_false,or_true,true_and,and_true,false_and,and_false,not_true_eq_false,not_false_eq_true]); (first | done | omega)) | exact leaf_b (by (try unfold refP); (try simp only [Bool.and_eq_true,Bool.or_eq_true,decide_eq_true_eq,Bool.not_eq_true',decide_eq_false_iff_not,Bool.false_eq_true,Bool.true_eq_false,Bool.not_false,Bool.not_true,eq_self,iff_true,iff_false,true_iff,false_iff,false_or,true_or,or_false,or_true,true_and,and_true,false_and,and_false,not_true_eq_false,not_false_eq_true]); (first | done | omega)))
def balP (n d : Int) : Prop := 0 <= n /\ n <= 1073741824 /\ 0 <= d /\ d < 7
instance (n d : Int) : Decidable (balP n d) := by unfold balP; infer_instance
theorem isBallot_at (n d : Int) (h : Heap) : D X (.fn 73 []) [.agg [.int .i64 n, .int .i64 d]] h = some (.bool (decide (balP n d)), h) := by
  refine Ok.eq ?_
  (refine Ok.body body73 pin73 ?_; simp only [c73,Tryz.f73,Option.getD_some,nslot73,List.append_nil,List.map,List.replicate,List.length_cons,List.length_nil,Nat.reduceAdd,Nat.reduceSub,List.cons_append,List.nil_append])
  (repeat' (first | (simp -implicitDefEqProofs (maxSteps := 1000000) (disch := first | assumption | omega | (simp only [ZDI]; omega)) only [*,G73,Za,Zb,Zc,Zd,Ze,Zf,Zg,Zh,Zi,Zj,Zk,Zl,Zm,Zn,Zo,Ja,Jb,Jc,J6,Jd,Je,J7,J8,Jf,Jg,Jh,Ji,Jj,Jk,J9,Jl,Jm,wr,Jn,JA,JB,Jo,Jp,Jq,Jr,Js,Jt,Ju,Jv,Jw,Jx,Jy,Jz,J0,J1,J2,J3,J4,J5,reduceCtorEq,JC,JD,JE,JF,JG,JH,JI,JJ]) | ((with_reducible (first | apply Ok.br | apply Ok.gd | apply Ok.ld)) <;> (intro g; (try simp only [ZGS] at g); try (exfalso; omega)))))
  all_goals (first | rfl | (exfalso; omega) | exact leaf_t (by (try unfold balP); (try simp only [Bool.and_eq_true,Bool.or_eq_true,decide_eq_true_eq,Bool.not_eq_true',decide_eq_false_iff_not,Bool.false_eq_true,Bool.true_eq_false,Bool.not_false,Bool.not_true,eq_self,iff_true,iff_false,true_iff,false_iff,false_or,true_or,or_false,or_true,true_and,and_true,false_and,and_false,not_true_eq_false,not_false_eq_true]); (first | done | omega)) | exact leaf_f (by (try unfold balP); (try simp only [Bool.and_eq_true,Bool.or_eq_true,decide_eq_true_eq,Bool.not_eq_true',decide_eq_false_iff_not,Bool.false_eq_true,Bool.true_eq_false,Bool.not_false,Bool.not_true,eq_self,iff_true,iff_false,true_iff,false_iff,false_or,true_or,or_false,or_true,true_and,and_true,false_and,and_false,not_true_eq_false,not_false_eq_true]); (first | done | omega)) | exact leaf_b (by (try unfold balP); (try simp only [Bool.and_eq_true,Bool.or_eq_true,decide_eq_true_eq,Bool.not_eq_true',decide_eq_false_iff_not,Bool.false_eq_true,Bool.true_eq_false,Bool.not_false,Bool.not_true,eq_self,iff_true,iff_false,true_iff,false_iff,false_or,true_or,or_false,or_true,true_and,and_true,false_and,and_false,not_true_eq_false,not_false_eq_true]); (first | done | omega)))
theorem mayBallot_at (n d : Int) (h : Heap) : D X (.fn 36 []) [.agg [.int .i64 n, .int .i64 d]] h = some (.bool (decide (balP n d)), h) := by
  refine Ok.eq ?_
  (refine Ok.body body36 pin36 ?_; simp only [c36,Tryz.f36,Option.getD_some,nslot36,List.append_nil,List.map,List.replicate,List.length_cons,List.length_nil,Nat.reduceAdd,Nat.reduceSub,List.cons_append,List.nil_append])
  (repeat' (first | (simp -implicitDefEqProofs (maxSteps := 1000000) (disch := first | assumption | omega | (simp only [ZDI]; omega)) only [*,G36,Za,Zb,Zc,Zd,Ze,Zf,Zg,Zh,Zi,Zj,Zk,Zl,Zm,Zn,Zo,Ja,Jb,Jc,J6,Jd,Je,J7,J8,Jf,Jg,Jh,Ji,Jj,Jk,J9,Jl,Jm,wr,Jn,JA,JB,Jo,Jp,Jq,Jr,Js,Jt,Ju,Jv,Jw,Jx,Jy,Jz,J0,J1,J2,J3,J4,J5,reduceCtorEq,JC,JD,JE,JF,JG,JH,JI,JJ]) | ((with_reducible (first | apply Ok.br | apply Ok.gd | apply Ok.ld)) <;> (intro g; (try simp only [ZGS] at g); try (exfalso; omega)))))
  all_goals (first | rfl | (exfalso; omega) | exact leaf_t (by (try unfold balP); (try simp only [Bool.and_eq_true,Bool.or_eq_true,decide_eq_true_eq,Bool.not_eq_true',decide_eq_false_iff_not,Bool.false_eq_true,Bool.true_eq_false,Bool.not_false,Bool.not_true,eq_self,iff_true,iff_false,true_iff,false_iff,false_or,true_or,or_false,or_true,true_and,and_true,false_and,and_false,not_true_eq_false,not_false_eq_true]); (first | done | omega)) | exact leaf_f (by (try unfold balP); (try simp only [Bool.and_eq_true,Bool.or_eq_true,decide_eq_true_eq,Bool.not_eq_true',decide_eq_false_iff_not,Bool.false_eq_true,Bool.true_eq_false,Bool.not_false,Bool.not_true,eq_self,iff_true,iff_false,true_iff,false_iff,false_or,true_or,or_false,or_true,true_and,and_true,false_and,and_false,not_true_eq_false,not_false_eq_true]); (first | done | omega)) | exact leaf_b (by (try unfold balP); (try simp only [Bool.and_eq_true,Bool.or_eq_true,decide_eq_true_eq,Bool.not_eq_true',decide_eq_false_iff_not,Bool.false_eq_true,Bool.true_eq_false,Bool.not_false,Bool.not_true,eq_self,iff_true,iff_false,true_iff,false_iff,false_or,true_or,or_false,or_true,true_and,and_true,false_and,and_false,not_true_eq_false,not_false_eq_true]); (first | done | omega)))
def lsP (a b c d : Int) : Prop := a < c \/ (a = c /\ b < d)
instance (a b c d : Int) : Decidable (lsP a b c d) := by unfold lsP; infer_instance
theorem lessBallot_at (a b c d : Int) (h : Heap) : D X (.fn 74 []) [.agg [.int .i64 a, .int .i64 b], .agg [.int .i64 c, .int .i64 d]] h = some (.bool (decide (lsP a b c d)), h) := by
  refine Ok.eq ?_
  by_cases h1 : a = c
  · (refine Ok.body body74 pin74 ?_; simp only [c74,Tryz.f74,Option.getD_some,nslot74,List.append_nil,List.map,List.replicate,List.length_cons,List.length_nil,Nat.reduceAdd,Nat.reduceSub,List.cons_append,List.nil_append])
    (repeat' (first | (simp -implicitDefEqProofs (maxSteps := 1000000) (disch := first | assumption | omega | (simp only [ZDI]; omega)) only [*,eq_self,G74,Za,Zb,Zc,Zd,Ze,Zf,Zg,Zh,Zi,Zj,Zk,Zl,Zm,Zn,Zo,Ja,Jb,Jc,J6,Jd,Je,J7,J8,Jf,Jg,Jh,Ji,Jj,Jk,J9,Jl,Jm,wr,Jn,JA,JB,Jo,Jp,Jq,Jr,Js,Jt,Ju,Jv,Jw,Jx,Jy,Jz,J0,J1,J2,J3,J4,J5,reduceCtorEq,JC,JD,JE,JF,JG,JH,JI,JJ]) | ((with_reducible (first | apply Ok.br | apply Ok.gd | apply Ok.ld)) <;> (intro g; (try simp only [ZGS] at g); try (exfalso; omega)))))
    all_goals (first | rfl | (exfalso; omega) | exact leaf_t (by (try unfold lsP); (try simp only [Bool.and_eq_true,Bool.or_eq_true,decide_eq_true_eq,Bool.not_eq_true',decide_eq_false_iff_not,Bool.false_eq_true,Bool.true_eq_false,Bool.not_false,Bool.not_true,eq_self,iff_true,iff_false,true_iff,false_iff,false_or,true_or,or_false,or_true,true_and,and_true,false_and,and_false,not_true_eq_false,not_false_eq_true]); (first | done | omega)) | exact leaf_f (by (try unfold lsP); (try simp only [Bool.and_eq_true,Bool.or_eq_true,decide_eq_true_eq,Bool.not_eq_true',decide_eq_false_iff_not,Bool.false_eq_true,Bool.true_eq_false,Bool.not_false,Bool.not_true,eq_self,iff_true,iff_false,true_iff,false_iff,false_or,true_or,or_false,or_true,true_and,and_true,false_and,and_false,not_true_eq_false,not_false_eq_true]); (first | done | omega)) | exact leaf_b (by (try unfold lsP); (try simp only [Bool.and_eq_true,Bool.or_eq_true,decide_eq_true_eq,Bool.not_eq_true',decide_eq_false_iff_not,Bool.false_eq_true,Bool.true_eq_false,Bool.not_false,Bool.not_true,eq_self,iff_true,iff_false,true_iff,false_iff,false_or,true_or,or_false,or_true,true_and,and_true,false_and,and_false,not_true_eq_false,not_false_eq_true]); (first | done | omega)))
  · (refine Ok.body body74 pin74 ?_; simp only [c74,Tryz.f74,Option.getD_some,nslot74,List.append_nil,List.map,List.replicate,List.length_cons,List.length_nil,Nat.reduceAdd,Nat.reduceSub,List.cons_append,List.nil_append])
    (repeat' (first | (simp -implicitDefEqProofs (maxSteps := 1000000) (disch := first | assumption | omega | (simp only [ZDI]; omega)) only [*,G74,Za,Zb,Zc,Zd,Ze,Zf,Zg,Zh,Zi,Zj,Zk,Zl,Zm,Zn,Zo,Ja,Jb,Jc,J6,Jd,Je,J7,J8,Jf,Jg,Jh,Ji,Jj,Jk,J9,Jl,Jm,wr,Jn,JA,JB,Jo,Jp,Jq,Jr,Js,Jt,Ju,Jv,Jw,Jx,Jy,Jz,J0,J1,J2,J3,J4,J5,reduceCtorEq,JC,JD,JE,JF,JG,JH,JI,JJ]) | ((with_reducible (first | apply Ok.br | apply Ok.gd | apply Ok.ld)) <;> (intro g; (try simp only [ZGS] at g); try (exfalso; omega)))))
    all_goals (first | rfl | (exfalso; omega) | exact leaf_t (by (try unfold lsP); (try simp only [Bool.and_eq_true,Bool.or_eq_true,decide_eq_true_eq,Bool.not_eq_true',decide_eq_false_iff_not,Bool.false_eq_true,Bool.true_eq_false,Bool.not_false,Bool.not_true,eq_self,iff_true,iff_false,true_iff,false_iff,false_or,true_or,or_false,or_true,true_and,and_true,false_and,and_false,not_true_eq_false,not_false_eq_true]); (first | done | omega)) | exact leaf_f (by (try unfold lsP); (try simp only [Bool.and_eq_true,Bool.or_eq_true,decide_eq_true_eq,Bool.not_eq_true',decide_eq_false_iff_not,Bool.false_eq_true,Bool.true_eq_false,Bool.not_false,Bool.not_true,eq_self,iff_true,iff_false,true_iff,false_iff,false_or,true_or,or_false,or_true,true_and,and_true,false_and,and_false,not_true_eq_false,not_false_eq_true]); (first | done | omega)) | exact leaf_b (by (try unfold lsP); (try simp only [Bool.and_eq_true,Bool.or_eq_true,decide_eq_true_eq,Bool.not_eq_true',decide_eq_false_iff_not,Bool.false_eq_true,Bool.true_eq_false,Bool.not_false,Bool.not_true,eq_self,iff_true,iff_false,true_iff,false_iff,false_or,true_or,or_false,or_true,true_and,and_true,false_and,and_false,not_true_eq_false,not_false_eq_true]); (first | done | omega)))
theorem rLess_at (a b c d : Int) (h : Heap) : D X (.fn 23 []) [.agg [.int .i64 a, .int .i64 b], .agg [.int .i64 c, .int .i64 d]] h = some (.bool (decide (lsP a b c d)), h) := by
  refine Ok.eq ?_
  by_cases h1 : a = c
  · (refine Ok.body body23 pin23 ?_; simp only [c23,Tryz.f23,Option.getD_some,nslot23,List.append_nil,List.map,List.replicate,List.length_cons,List.length_nil,Nat.reduceAdd,Nat.reduceSub,List.cons_append,List.nil_append])
    (repeat' (first | (simp -implicitDefEqProofs (maxSteps := 1000000) (disch := first | assumption | omega | (simp only [ZDI]; omega)) only [*,eq_self,G23,Za,Zb,Zc,Zd,Ze,Zf,Zg,Zh,Zi,Zj,Zk,Zl,Zm,Zn,Zo,Ja,Jb,Jc,J6,Jd,Je,J7,J8,Jf,Jg,Jh,Ji,Jj,Jk,J9,Jl,Jm,wr,Jn,JA,JB,Jo,Jp,Jq,Jr,Js,Jt,Ju,Jv,Jw,Jx,Jy,Jz,J0,J1,J2,J3,J4,J5,reduceCtorEq,JC,JD,JE,JF,JG,JH,JI,JJ]) | ((with_reducible (first | apply Ok.br | apply Ok.gd | apply Ok.ld)) <;> (intro g; (try simp only [ZGS] at g); try (exfalso; omega)))))
    all_goals (first | rfl | (exfalso; omega) | exact leaf_t (by (try unfold lsP); (try simp only [Bool.and_eq_true,Bool.or_eq_true,decide_eq_true_eq,Bool.not_eq_true',decide_eq_false_iff_not,Bool.false_eq_true,Bool.true_eq_false,Bool.not_false,Bool.not_true,eq_self,iff_true,iff_false,true_iff,false_iff,false_or,true_or,or_false,or_true,true_and,and_true,false_and,and_false,not_true_eq_false,not_false_eq_true]); (first | done | omega)) | exact leaf_f (by (try unfold lsP); (try simp only [Bool.and_eq_true,Bool.or_eq_true,decide_eq_true_eq,Bool.not_eq_true',decide_eq_false_iff_not,Bool.false_eq_true,Bool.true_eq_false,Bool.not_false,Bool.not_true,eq_self,iff_true,iff_false,true_iff,false_iff,false_or,true_or,or_false,or_true,true_and,and_true,false_and,and_false,not_true_eq_false,not_false_eq_true]); (first | done | omega)) | exact leaf_b (by (try unfold lsP); (try simp only [Bool.and_eq_true,Bool.or_eq_true,decide_eq_true_eq,Bool.not_eq_true',decide_eq_false_iff_not,Bool.false_eq_true,Bool.true_eq_false,Bool.not_false,Bool.not_true,eq_self,iff_true,iff_false,true_iff,false_iff,false_or,true_or,or_false,or_true,true_and,and_true,false_and,and_false,not_true_eq_false,not_false_eq_true]); (first | done | omega)))
  · (refine Ok.body body23 pin23 ?_; simp only [c23,Tryz.f23,Option.getD_some,nslot23,List.append_nil,List.map,List.replicate,List.length_cons,List.length_nil,Nat.reduceAdd,Nat.reduceSub,List.cons_append,List.nil_append])
    (repeat' (first | (simp -implicitDefEqProofs (maxSteps := 1000000) (disch := first | assumption | omega | (simp only [ZDI]; omega)) only [*,G23,Za,Zb,Zc,Zd,Ze,Zf,Zg,Zh,Zi,Zj,Zk,Zl,Zm,Zn,Zo,Ja,Jb,Jc,J6,Jd,Je,J7,J8,Jf,Jg,Jh,Ji,Jj,Jk,J9,Jl,Jm,wr,Jn,JA,JB,Jo,Jp,Jq,Jr,Js,Jt,Ju,Jv,Jw,Jx,Jy,Jz,J0,J1,J2,J3,J4,J5,reduceCtorEq,JC,JD,JE,JF,JG,JH,JI,JJ]) | ((with_reducible (first | apply Ok.br | apply Ok.gd | apply Ok.ld)) <;> (intro g; (try simp only [ZGS] at g); try (exfalso; omega)))))
    all_goals (first | rfl | (exfalso; omega) | exact leaf_t (by (try unfold lsP); (try simp only [Bool.and_eq_true,Bool.or_eq_true,decide_eq_true_eq,Bool.not_eq_true',decide_eq_false_iff_not,Bool.false_eq_true,Bool.true_eq_false,Bool.not_false,Bool.not_true,eq_self,iff_true,iff_false,true_iff,false_iff,false_or,true_or,or_false,or_true,true_and,and_true,false_and,and_false,not_true_eq_false,not_false_eq_true]); (first | done | omega)) | exact leaf_f (by (try unfold lsP); (try simp only [Bool.and_eq_true,Bool.or_eq_true,decide_eq_true_eq,Bool.not_eq_true',decide_eq_false_iff_not,Bool.false_eq_true,Bool.true_eq_false,Bool.not_false,Bool.not_true,eq_self,iff_true,iff_false,true_iff,false_iff,false_or,true_or,or_false,or_true,true_and,and_true,false_and,and_false,not_true_eq_false,not_false_eq_true]); (first | done | omega)) | exact leaf_b (by (try unfold lsP); (try simp only [Bool.and_eq_true,Bool.or_eq_true,decide_eq_true_eq,Bool.not_eq_true',decide_eq_false_iff_not,Bool.false_eq_true,Bool.true_eq_false,Bool.not_false,Bool.not_true,eq_self,iff_true,iff_false,true_iff,false_iff,false_or,true_or,or_false,or_true,true_and,and_true,false_and,and_false,not_true_eq_false,not_false_eq_true]); (first | done | omega)))
def smC (o c q f t o' c' q' f' t' : Int) : Prop := o = o' /\ c = c' /\ q = q' /\ f = f' /\ t = t'
instance (o c q f t o' c' q' f' t' : Int) : Decidable (smC o c q f t o' c' q' f' t') := by unfold smC; infer_instance
theorem truth (P : Prop) [Decidable P] : ∃ b, decide P = b /\ Hid (P -> b = true) /\ Hid (¬ P -> b = false) := ⟨decide P, rfl, ⟨fun h => decide_eq_true h⟩, ⟨fun h => decide_eq_false h⟩⟩
theorem sameCmd_at {h : Heap} {o c q f t o' c' q' f' t' : Int} {v w : V} {l m : List ByteArray} (hr : StrsAt h v l) (hs : StrsAt h w m) :
    D X (.fn 119 []) [.agg [.int .i64 o, .int .i64 c, .int .i64 q, .int .i64 f, .int .i64 t, v], .agg [.int .i64 o', .int .i64 c', .int .i64 q', .int .i64 f', .int .i64 t', w]] h = some (.bool (decide (smC o c q f t o' c' q' f' t') && decide (l = m)), h) := by
  refine Ok.eq ?_
  have he := equalS_at hr hs
  obtain ⟨a, cap, z, rfl⟩ := hr.sl
  obtain ⟨a2, cap2, z2, rfl⟩ := hs.sl
  clear hr hs
  generalize decide (l = m) = e at he ⊢
  obtain ⟨b, hb, b1, b0⟩ := truth (smC o c q f t o' c' q' f' t')
  rw [hb]
  clear hb
  (refine Ok.body body119 pin119 ?_; simp only [c119,Tryz.f119,Option.getD_some,nslot119,List.append_nil,List.map,List.replicate,List.length_cons,List.length_nil,Nat.reduceAdd,Nat.reduceSub,List.cons_append,List.nil_append])
  (repeat' (first | (simp -implicitDefEqProofs (maxSteps := 1000000) (disch := first | assumption | omega | (simp only [ZDI]; omega)) only [*,G119,Za,Zb,Zc,Zd,Ze,Zf,Zg,Zh,Zi,Zj,Zk,Zl,Zm,Zn,Zo,Ja,Jb,Jc,J6,Jd,Je,J7,J8,Jf,Jg,Jh,Ji,Jj,Jk,J9,Jl,Jm,wr,Jn,JA,JB,Jo,Jp,Jq,Jr,Js,Jt,Ju,Jv,Jw,Jx,Jy,Jz,J0,J1,J2,J3,J4,J5,reduceCtorEq,JC,JD,JE,JF,JG,JH,JI,JJ]) | ((with_reducible (first | apply Ok.br | apply Ok.gd | apply Ok.ld)) <;> (intro g; (try simp only [ZGS] at g); try (exfalso; omega)))))
  all_goals first
    | (rw [b1.out (by unfold smC; omega)]; rfl)
    | (rw [b0.out (by unfold smC; omega)]; rfl)
theorem rSameCmd_at {h : Heap} {o c q f t o' c' q' f' t' : Int} {v w : V} {l m : List ByteArray} (hr : StrsAt h v l) (hs : StrsAt h w m) :
    D X (.fn 31 []) [.agg [.int .i64 o, .int .i64 c, .int .i64 q, .int .i64 f, .int .i64 t, v], .agg [.int .i64 o', .int .i64 c', .int .i64 q', .int .i64 f', .int .i64 t', w]] h = some (.bool (decide (smC o c q f t o' c' q' f' t') && decide (l = m)), h) := by
  by_cases hsm : smC o c q f t o' c' q' f' t'
  · rw [decide_eq_true hsm, Bool.true_and]
    obtain ⟨rfl, rfl, rfl, rfl, rfl⟩ := hsm
    exact rSameCmdEq_at hr hs
  · rw [decide_eq_false hsm, Bool.false_and]
    refine Ok.eq ?_
    obtain ⟨a, cap, z, rfl⟩ := hr.sl
    obtain ⟨a2, cap2, z2, rfl⟩ := hs.sl
    clear hr hs
    unfold smC at hsm
    have key : ∀ P : Prop, (¬ o = o' -> P) -> (o = o' -> ¬ c = c' -> P) -> (o = o' -> c = c' -> ¬ q = q' -> P) -> (o = o' -> c = c' -> q = q' -> ¬ f = f' -> P) -> (o = o' -> c = c' -> q = q' -> f = f' -> ¬ t = t' -> P) -> P := by
      intro P p1 p2 p3 p4 p5
      by_cases h1 : o = o'
      · by_cases h2 : c = c'
        · by_cases h3 : q = q'
          · by_cases h4 : f = f'
            · exact p5 h1 h2 h3 h4 fun h5 => hsm ⟨h1, h2, h3, h4, h5⟩
            · exact p4 h1 h2 h3 h4
          · exact p3 h1 h2 h3
        · exact p2 h1 h2
      · exact p1 h1
    clear hsm
    apply key <;> clear key
    all_goals
      intros
      (refine Ok.body body31 pin31 ?_; simp only [c31,Tryz.f31,Option.getD_some,nslot31,List.append_nil,List.map,List.replicate,List.length_cons,List.length_nil,Nat.reduceAdd,Nat.reduceSub,List.cons_append,List.nil_append])
      (repeat' (first | (simp -implicitDefEqProofs (maxSteps := 1000000) (disch := first | assumption | omega | (simp only [ZDI]; omega)) only [*,eq_self,G31,Za,Zb,Zc,Zd,Ze,Zf,Zg,Zh,Zi,Zj,Zk,Zl,Zm,Zn,Zo,Ja,Jb,Jc,J6,Jd,Je,J7,J8,Jf,Jg,Jh,Ji,Jj,Jk,J9,Jl,Jm,wr,Jn,JA,JB,Jo,Jp,Jq,Jr,Js,Jt,Ju,Jv,Jw,Jx,Jy,Jz,J0,J1,J2,J3,J4,J5,reduceCtorEq,JC,JD,JE,JF,JG,JH,JI,JJ]) | ((with_reducible (first | apply Ok.br | apply Ok.gd | apply Ok.ld)) <;> (intro g; (try simp only [ZGS] at g); try (exfalso; omega)))))
def smN (x y : In) : Prop := x.l = y.l /\ x.i = y.i /\ x.bn = y.bn /\ x.bd = y.bd /\ x.vn = y.vn /\ x.vd = y.vd /\ x.st = y.st /\ x.sq = y.sq
instance (x y : In) : Decidable (smN x y) := by unfold smN; infer_instance
def smB (x y : In) : Bool := decide (smN x y) && (x.sm == y.sm) && (decide (smC x.o x.c x.q x.f x.t y.o y.c y.q y.f y.t) && decide (x.dl = y.dl)) && decide (x.pl = y.pl)
set_option maxHeartbeats 2000000 in
theorem same_at {h : Heap} {x y : In} (hx : InAt h x) (hy : InAt h y) : D X (.fn 107 []) [.agg (inV x), .agg (inV y)] h = some (.bool (smB x y), h) := by
  refine Ok.eq ?_
  have h1 := sameCmd_at (o := x.o) (c := x.c) (q := x.q) (f := x.f) (t := x.t) (o' := y.o) (c' := y.c) (q' := y.q) (f' := y.f) (t' := y.t) hx.1 hy.1
  have h2 := equalR_at hx.2 hy.2
  obtain ⟨a, cap, z, e1⟩ := hx.1.sl
  obtain ⟨a2, cap2, z2, e2⟩ := hy.1.sl
  obtain ⟨a3, cap3, z3, e3⟩ := hx.2.sl
  obtain ⟨a4, cap4, z4, e4⟩ := hy.2.sl
  rw [e1, e2] at h1
  rw [e3, e4] at h2
  clear hx hy
  unfold smB
  simp only [inV,e1,e2,e3,e4]
  clear e1 e2 e3 e4
  generalize (decide (smC x.o x.c x.q x.f x.t y.o y.c y.q y.f y.t) && decide (x.dl = y.dl)) = A at h1 ⊢
  generalize decide (x.pl = y.pl) = B at h2 ⊢
  obtain ⟨b, hb, b1, b0⟩ := truth (smN x y)
  rw [hb]
  clear hb
  generalize hsm : (x.sm == y.sm) = s
  (refine Ok.body body107 pin107 ?_; simp only [c107,Tryz.f107,Option.getD_some,nslot107,List.append_nil,List.map,List.replicate,List.length_cons,List.length_nil,Nat.reduceAdd,Nat.reduceSub,List.cons_append,List.nil_append])
  (repeat' (first | (simp -implicitDefEqProofs (maxSteps := 1000000) (disch := first | assumption | omega | (simp only [ZDI]; omega)) only [*,G107,Za,Zb,Zc,Zd,Ze,Zf,Zg,Zh,Zi,Zj,Zk,Zl,Zm,Zn,Zo,Ja,Jb,Jc,J6,Jd,Je,J7,J8,Jf,Jg,Jh,Ji,Jj,Jk,J9,Jl,Jm,wr,Jn,JA,JB,Jo,Jp,Jq,Jr,Js,Jt,Ju,Jv,Jw,Jx,Jy,Jz,J0,J1,J2,J3,J4,J5,reduceCtorEq,JC,JD,JE,JF,JG,JH,JI,JJ]) | ((with_reducible (first | apply Ok.br | apply Ok.gd | apply Ok.ld)) <;> (intro g; (try simp only [ZGS] at g); try (exfalso; omega)))))
  all_goals (try simp only [Bool.and_eq_true,Bool.and_eq_false_iff,decide_eq_true_eq,decide_eq_false_iff_not] at *)
  all_goals first
    | (rw [b1.out (by unfold smN; omega)]; simp [*]; done)
    | (rw [b0.out (by unfold smN; omega)]; simp; done)
    | (simp [*]; done)
end Go.Ev
set_option maxRecDepth 100000
namespace Go.Ev
open Go.Ev renaming exPure -> Ja, ofValue -> Jb, cellsV -> Jc, load -> Jd, store -> Je, binOp -> Jf, intOp -> Jg, rdV -> Jh, vsame -> Ji, vsames -> Jj, makeSliceV -> Jk, resV -> Jl, isCell -> Jm, nilCheckV -> Jn, allV -> Jo, builtinV -> Jp, lenV -> Jq, indexAddrV -> Jr, unOp -> Js, minmaxV -> Jt, minmax -> Ju, sliceV -> Jv, asInt -> Jw, appendV -> Jx, forkB -> Jy, roY -> Jz, rwB -> J0, copyV -> J1, clearV -> J2, convV -> J3, sliceCells -> J4, shift -> J5
open Bool renaming true -> BT, false -> BF
open Nat renaming reduceEqDiff -> J6, reduceLT -> J7, reduceAdd -> J8, reduceBEq -> J9, reduceSub -> JA, reduceMul -> JB, reduceLeDiff -> JJ
open Int renaming reduceLT -> JC, reduceLE -> JD, reduceAdd -> JE, reduceSub -> JF, reduceNeg -> JG, reduceToNat -> JH, reduceEq -> JI
open Go.Proofs
def textB (s : ByteArray) : Bool := decide ((s.size : Int) <= 4096) && (decide (s.size = 0) || match s.data.toList[s.size - 1]? with | some c => !decide ((c.toNat : Int) = 0) | none => false)
theorem textB_0 {s : ByteArray} (h : s.size = 0) : textB s = true := by
  unfold textB
  rw [h]
  rfl
theorem textB_1 {s : ByteArray} (h : s.size ≠ 0) {c : UInt8} (hc : s.data.toList[s.size - 1]? = some c) : textB s = (decide ((s.size : Int) <= 4096) && !decide ((c.toNat : Int) = 0)) := by
  unfold textB
  rw [hc, decide_eq_false h, Bool.false_or]
theorem strEq_nil (s : ByteArray) : strEq s ⟨#[]⟩ = decide (s.size = 0) := by
  unfold strEq
  apply decide_eq_decide.2
  have e : s.size = s.data.toList.length := rfl
  rw [e]
  exact ⟨fun h => by rw [h]; rfl, fun h => List.length_eq_zero_iff.1 h⟩
theorem byte_last {s : ByteArray} (h : s.size ≠ 0) : ∃ c, s.data.toList[s.size - 1]? = some c := by
  have : s.size - 1 < s.data.toList.length := by rw [Array.length_toList]; have : s.size = s.data.size := rfl; omega
  exact ⟨_, List.getElem?_eq_getElem this⟩
theorem isText_at (s : ByteArray) (h : Heap) : D X (.fn 90 []) [.str s] h = some (.bool (textB s), h) := by
  refine Ok.eq ?_
  by_cases h0 : s.size = 0
  · have ht := textB_0 h0
    (refine Ok.body body90 pin90 ?_; simp only [c90,Tryz.f90,Option.getD_some,nslot90,List.append_nil,List.map,List.replicate,List.length_cons,List.length_nil,Nat.reduceAdd,Nat.reduceSub,List.cons_append,List.nil_append])
    (repeat' (first | (simp -implicitDefEqProofs (maxSteps := 1000000) (disch := first | assumption | omega | (simp only [ZDI]; omega)) only [*,strEq_nil,G90,Za,Zb,Zc,Zd,Ze,Zf,Zg,Zh,Zi,Zj,Zk,Zl,Zm,Zn,Zo,Ja,Jb,Jc,J6,Jd,Je,J7,J8,Jf,Jg,Jh,Ji,Jj,Jk,J9,Jl,Jm,wr,Jn,JA,JB,Jo,Jp,Jq,Jr,Js,Jt,Ju,Jv,Jw,Jx,Jy,Jz,J0,J1,J2,J3,J4,J5,reduceCtorEq,JC,JD,JE,JF,JG,JH,JI,JJ]) | ((with_reducible (first | apply Ok.br | apply Ok.gd | apply Ok.ld)) <;> (intro g; (try simp only [ZGS] at g); try (exfalso; omega)))))
    all_goals omega
  · obtain ⟨c, hc⟩ := byte_last h0
    have ht := textB_1 h0 hc
    have h1 : ¬ (s.size : Int) = 0 := by omega
    have e1 : ((s.size : Int) - 1).toNat = s.size - 1 := by omega
    (refine Ok.body body90 pin90 ?_; simp only [c90,Tryz.f90,Option.getD_some,nslot90,List.append_nil,List.map,List.replicate,List.length_cons,List.length_nil,Nat.reduceAdd,Nat.reduceSub,List.cons_append,List.nil_append])
    (repeat' (first | (simp -implicitDefEqProofs (maxSteps := 1000000) (disch := first | assumption | omega | (simp only [ZDI]; omega)) only [*,strEq_nil,indexV,G90,Za,Zb,Zc,Zd,Ze,Zf,Zg,Zh,Zi,Zj,Zk,Zl,Zm,Zn,Zo,Ja,Jb,Jc,J6,Jd,Je,J7,J8,Jf,Jg,Jh,Ji,Jj,Jk,J9,Jl,Jm,wr,Jn,JA,JB,Jo,Jp,Jq,Jr,Js,Jt,Ju,Jv,Jw,Jx,Jy,Jz,J0,J1,J2,J3,J4,J5,reduceCtorEq,JC,JD,JE,JF,JG,JH,JI,JJ]) | ((with_reducible (first | apply Ok.br | apply Ok.gd | apply Ok.ld)) <;> (intro g; (try simp only [ZGS] at g); try (exfalso; omega)))))
theorem rIsText_at (s : ByteArray) (h : Heap) : D X (.fn 68 []) [.str s] h = some (.bool (textB s), h) := by
  refine Ok.eq ?_
  by_cases h0 : s.size = 0
  · have ht := textB_0 h0
    (refine Ok.body body68 pin68 ?_; simp only [c68,Tryz.f68,Option.getD_some,nslot68,List.append_nil,List.map,List.replicate,List.length_cons,List.length_nil,Nat.reduceAdd,Nat.reduceSub,List.cons_append,List.nil_append])
    (repeat' (first | (simp -implicitDefEqProofs (maxSteps := 1000000) (disch := first | assumption | omega | (simp only [ZDI]; omega)) only [*,Int.natCast_zero,G68,Za,Zb,Zc,Zd,Ze,Zf,Zg,Zh,Zi,Zj,Zk,Zl,Zm,Zn,Zo,Ja,Jb,Jc,J6,Jd,Je,J7,J8,Jf,Jg,Jh,Ji,Jj,Jk,J9,Jl,Jm,wr,Jn,JA,JB,Jo,Jp,Jq,Jr,Js,Jt,Ju,Jv,Jw,Jx,Jy,Jz,J0,J1,J2,J3,J4,J5,reduceCtorEq,JC,JD,JE,JF,JG,JH,JI,JJ]) | ((with_reducible (first | apply Ok.br | apply Ok.gd | apply Ok.ld)) <;> (intro g; (try simp only [ZGS] at g); try (exfalso; omega)))))
    all_goals omega
  · obtain ⟨c, hc⟩ := byte_last h0
    have ht := textB_1 h0 hc
    have h1 : ¬ (s.size : Int) = 0 := by omega
    have e1 : ((s.size : Int) - 1).toNat = s.size - 1 := by omega
    (refine Ok.body body68 pin68 ?_; simp only [c68,Tryz.f68,Option.getD_some,nslot68,List.append_nil,List.map,List.replicate,List.length_cons,List.length_nil,Nat.reduceAdd,Nat.reduceSub,List.cons_append,List.nil_append])
    (repeat' (first | (simp -implicitDefEqProofs (maxSteps := 1000000) (disch := first | assumption | omega | (simp only [ZDI]; omega)) only [*,indexV,G68,Za,Zb,Zc,Zd,Ze,Zf,Zg,Zh,Zi,Zj,Zk,Zl,Zm,Zn,Zo,Ja,Jb,Jc,J6,Jd,Je,J7,J8,Jf,Jg,Jh,Ji,Jj,Jk,J9,Jl,Jm,wr,Jn,JA,JB,Jo,Jp,Jq,Jr,Js,Jt,Ju,Jv,Jw,Jx,Jy,Jz,J0,J1,J2,J3,J4,J5,reduceCtorEq,JC,JD,JE,JF,JG,JH,JI,JJ]) | ((with_reducible (first | apply Ok.br | apply Ok.gd | apply Ok.ld)) <;> (intro g; (try simp only [ZGS] at g); try (exfalso; omega)))))
theorem notText_at (s : ByteArray) (h : Heap) : D X (.fn 89 []) [.str s] h = some (.bool (!textB s), h) := by
  refine Ok.eq ?_
  (refine Ok.body body89 pin89 ?_; simp only [c89,Tryz.f89,Option.getD_some,nslot89,List.append_nil,List.map,List.replicate,List.length_cons,List.length_nil,Nat.reduceAdd,Nat.reduceSub,List.cons_append,List.nil_append])
  (repeat' (first | (simp -implicitDefEqProofs (maxSteps := 1000000) (disch := first | assumption | omega | (simp only [ZDI]; omega)) only [*,isText_at,G89,Za,Zb,Zc,Zd,Ze,Zf,Zg,Zh,Zi,Zj,Zk,Zl,Zm,Zn,Zo,Ja,Jb,Jc,J6,Jd,Je,J7,J8,Jf,Jg,Jh,Ji,Jj,Jk,J9,Jl,Jm,wr,Jn,JA,JB,Jo,Jp,Jq,Jr,Js,Jt,Ju,Jv,Jw,Jx,Jy,Jz,J0,J1,J2,J3,J4,J5,reduceCtorEq,JC,JD,JE,JF,JG,JH,JI,JJ]) | ((with_reducible (first | apply Ok.br | apply Ok.gd | apply Ok.ld)) <;> (intro g; (try simp only [ZGS] at g); try (exfalso; omega)))))
theorem indexFunc_at {h : Heap} {a : SA} {cap z : Nat} {l : List ByteArray} (hl : l.length <= 9223372036854775807)
    (ha : l = [] \/ ∃ b g o rw full, a = .at b g o /\ hcells h b g = some (rw, full) /\ ∀ (i : Nat) (s : ByteArray), l[i]? = some s -> full[o + i]? = some (.str s))
    {f : FuncId} {cp : List V} (p : ByteArray -> Bool) (hp : ∀ s, D X (.fn f cp) [.str s] h = some (.bool (p s), h)) :
    Ok (D X (.fn 112 []) [.sl a l.length cap z, .fn f cp] h) fun r => ∃ n : Int, r = (.int .i64 n, h) /\ (0 <= n ↔ l.any p = true) := by
  refine Ok.aim fun Q hQ => ?_
  have hQ' := Hid.mk hQ
  clear hQ
  (refine Ok.body body112 pin112 ?_; simp only [c112,Tryz.f112,Option.getD_some,nslot112,List.append_nil,List.map,List.replicate,List.length_cons,List.length_nil,Nat.reduceAdd,Nat.reduceSub,List.cons_append,List.nil_append])
  simp -implicitDefEqProofs (maxSteps := 1000000) (disch := first | assumption | omega | (simp only [ZDI]; omega)) only [*,G112,Za,Zb,Zc,Zd,Ze,Zf,Zg,Zh,Zi,Zj,Zk,Zl,Zm,Zn,Zo,Ja,Jb,Jc,J6,Jd,Je,J7,J8,Jf,Jg,Jh,Ji,Jj,Jk,J9,Jl,Jm,wr,Jn,JA,JB,Jo,Jp,Jq,Jr,Js,Jt,Ju,Jv,Jw,Jx,Jy,Jz,J0,J1,J2,J3,J4,J5,reduceCtorEq,JC,JD,JE,JF,JG,JH,JI,JJ]
  refine Ok.loop [BF, BF, BF, BF, BT, BT, BF, BF, BT, BT, BT, BT, BT, BT, BT, BT, BT, BT, BT] (fun n s => ∃ i : Nat, n = l.length - i /\ i <= l.length /\ tv s.e 8 = .v (.int .i64 i) /\ s.l = [] /\ s.h = h /\ ∀ (j : Nat) (s : ByteArray), j < i -> l[j]? = some s -> p s = false)
    (fun x s => s.l = [] /\ s.h = h /\ ((x = .exit 0 /\ l.any p = false) \/ (x = .ret /\ l.any p = true /\ ∃ i : Nat, tv s.e 4 = .v (.int .i64 i)))) (l.length - 0) ⟨0, rfl, by omega, rfl, rfl, rfl, fun j s hj => by omega⟩ ?_ ?_
  · intro n ⟨e', l', h'⟩ hW ⟨i, hn, hi, h8, h1, h2, hno⟩
    dsimp only at hW h8 h1 h2
    subst l' h'
    rw [hW.spread]
    simp only [spread_t,spread_f,spread_n,Nat.zero_add,Nat.reduceAdd,h8]
    by_cases hlt : i < l.length
    · rcases ha with rfl | ⟨b, g, o, rw, full, rfl, hb, hfull⟩
      · simp at hlt
      · obtain ⟨s, hs⟩ : ∃ s, l[i]? = some s := ⟨_, List.getElem?_eq_getElem hlt⟩
        have hf := hfull i s hs
        have hfn := hp s
        cases hps : p s with
        | true =>
          rw [hps] at hfn
          simp -implicitDefEqProofs (maxSteps := 1000000) (disch := first | assumption | omega | (simp only [ZDI]; omega)) only [*,Int.ofNat_lt,Int.natCast_nonneg,G112,Za,Zb,Zc,Zd,Ze,Zf,Zg,Zh,Zi,Zj,Zk,Zl,Zm,Zn,Zo,Ja,Jb,Jc,J6,Jd,Je,J7,J8,Jf,Jg,Jh,Ji,Jj,Jk,J9,Jl,Jm,wr,Jn,JA,JB,Jo,Jp,Jq,Jr,Js,Jt,Ju,Jv,Jw,Jx,Jy,Jz,J0,J1,J2,J3,J4,J5,reduceCtorEq,JC,JD,JE,JF,JG,JH,JI,JJ]
          exact Turn.ret ⟨rfl, rfl, rfl, .inr ⟨rfl, List.any_eq_true.2 ⟨s, List.mem_of_getElem? hs, hps⟩, i, rfl⟩⟩
        | false =>
          rw [hps] at hfn
          simp -implicitDefEqProofs (maxSteps := 1000000) (disch := first | assumption | omega | (simp only [ZDI]; omega)) only [*,Int.ofNat_lt,Int.natCast_nonneg,G112,Za,Zb,Zc,Zd,Ze,Zf,Zg,Zh,Zi,Zj,Zk,Zl,Zm,Zn,Zo,Ja,Jb,Jc,J6,Jd,Je,J7,J8,Jf,Jg,Jh,Ji,Jj,Jk,J9,Jl,Jm,wr,Jn,JA,JB,Jo,Jp,Jq,Jr,Js,Jt,Ju,Jv,Jw,Jx,Jy,Jz,J0,J1,J2,J3,J4,J5,reduceCtorEq,JC,JD,JE,JF,JG,JH,JI,JJ]
          refine Turn.next (l.length - (i + 1)) (by omega) ⟨rfl, i + 1, rfl, by omega, rfl, rfl, rfl, fun j s' hj hs' => ?_⟩
          by_cases hji : j = i
          · subst hji
            rw [hs] at hs'
            cases hs'
            exact hps
          · exact hno j s' (by omega) hs'
    · simp -implicitDefEqProofs (maxSteps := 1000000) (disch := first | assumption | omega | (simp only [ZDI]; omega)) only [*,Int.ofNat_lt,G112,Za,Zb,Zc,Zd,Ze,Zf,Zg,Zh,Zi,Zj,Zk,Zl,Zm,Zn,Zo,Ja,Jb,Jc,J6,Jd,Je,J7,J8,Jf,Jg,Jh,Ji,Jj,Jk,J9,Jl,Jm,wr,Jn,JA,JB,Jo,Jp,Jq,Jr,Js,Jt,Ju,Jv,Jw,Jx,Jy,Jz,J0,J1,J2,J3,J4,J5,reduceCtorEq,JC,JD,JE,JF,JG,JH,JI,JJ]
      refine Turn.exit ⟨rfl, rfl, rfl, .inl ⟨rfl, ?_⟩⟩
      rw [List.any_eq_false]
      intro s hs
      obtain ⟨j, hj⟩ := List.getElem?_of_mem hs
      have := (List.getElem?_eq_some_iff.1 hj).1
      rw [hno j s (by omega) hj]
      simp
  · intro x ⟨e', l', h'⟩ hW ⟨h1, h2, hE⟩
    dsimp only at hW h1 h2 hE
    subst l' h'
    rw [hW.spread]
    rcases hE with ⟨rfl, hany⟩ | ⟨rfl, hany, i, h4⟩
    · simp only [spread_t,spread_f,spread_n,Nat.zero_add,Nat.reduceAdd]
      simp -implicitDefEqProofs (maxSteps := 1000000) (disch := first | assumption | omega | (simp only [ZDI]; omega)) only [*,Int.ofNat_lt,G112,Za,Zb,Zc,Zd,Ze,Zf,Zg,Zh,Zi,Zj,Zk,Zl,Zm,Zn,Zo,Ja,Jb,Jc,J6,Jd,Je,J7,J8,Jf,Jg,Jh,Ji,Jj,Jk,J9,Jl,Jm,wr,Jn,JA,JB,Jo,Jp,Jq,Jr,Js,Jt,Ju,Jv,Jw,Jx,Jy,Jz,J0,J1,J2,J3,J4,J5,reduceCtorEq,JC,JD,JE,JF,JG,JH,JI,JJ]
      exact hQ'.out _ ⟨-1, rfl, by rw [hany]; simp⟩
    · simp only [spread_t,spread_f,spread_n,Nat.zero_add,Nat.reduceAdd,h4]
      simp -implicitDefEqProofs (maxSteps := 1000000) (disch := first | assumption | omega | (simp only [ZDI]; omega)) only [*,Int.ofNat_lt,G112,Za,Zb,Zc,Zd,Ze,Zf,Zg,Zh,Zi,Zj,Zk,Zl,Zm,Zn,Zo,Ja,Jb,Jc,J6,Jd,Je,J7,J8,Jf,Jg,Jh,Ji,Jj,Jk,J9,Jl,Jm,wr,Jn,JA,JB,Jo,Jp,Jq,Jr,Js,Jt,Ju,Jv,Jw,Jx,Jy,Jz,J0,J1,J2,J3,J4,J5,reduceCtorEq,JC,JD,JE,JF,JG,JH,JI,JJ]
      exact hQ'.out _ ⟨i, rfl, by simp [hany]⟩
theorem containsFunc_at {h : Heap} {v : V} {l : List ByteArray} (hv : StrsAt h v l) {f : FuncId} {cp : List V} (p : ByteArray -> Bool) (hp : ∀ s, D X (.fn f cp) [.str s] h = some (.bool (p s), h)) :
    D X (.fn 88 []) [v, .fn f cp] h = some (.bool (l.any p), h) := by
  refine Ok.eq ?_
  obtain ⟨a, cap, z, rfl, hl, _, ha⟩ := hv
  obtain ⟨r, hr, n, rfl, hn⟩ := indexFunc_at (cap := cap) (z := z) hl ha p hp
  clear hp
  (refine Ok.body body88 pin88 ?_; simp only [c88,Tryz.f88,Option.getD_some,nslot88,List.append_nil,List.map,List.replicate,List.length_cons,List.length_nil,Nat.reduceAdd,Nat.reduceSub,List.cons_append,List.nil_append])
  simp -implicitDefEqProofs (maxSteps := 1000000) (disch := first | assumption | omega | (simp only [ZDI]; omega)) only [*,G88,Za,Zb,Zc,Zd,Ze,Zf,Zg,Zh,Zi,Zj,Zk,Zl,Zm,Zn,Zo,Ja,Jb,Jc,J6,Jd,Je,J7,J8,Jf,Jg,Jh,Ji,Jj,Jk,J9,Jl,Jm,wr,Jn,JA,JB,Jo,Jp,Jq,Jr,Js,Jt,Ju,Jv,Jw,Jx,Jy,Jz,J0,J1,J2,J3,J4,J5,reduceCtorEq,JC,JD,JE,JF,JG,JH,JI,JJ]
  have e : decide (0 <= n) = l.any p := by
    cases hb : l.any p
    · rw [hb] at hn; simpa using hn
    · rw [hb] at hn; simpa using hn
  simp only [Bool.decide_eq_true]
theorem isClients_at (o : Int) (h : Heap) : D X (.fn 87 []) [.int .i64 o] h = some (.bool (decide (1 <= o /\ o <= 4)), h) := by
  refine Ok.eq ?_
  (refine Ok.body body87 pin87 ?_; simp only [c87,Tryz.f87,Option.getD_some,nslot87,List.append_nil,List.map,List.replicate,List.length_cons,List.length_nil,Nat.reduceAdd,Nat.reduceSub,List.cons_append,List.nil_append])
  (repeat' (first | (simp -implicitDefEqProofs (maxSteps := 1000000) (disch := first | assumption | omega | (simp only [ZDI]; omega)) only [*,G87,Za,Zb,Zc,Zd,Ze,Zf,Zg,Zh,Zi,Zj,Zk,Zl,Zm,Zn,Zo,Ja,Jb,Jc,J6,Jd,Je,J7,J8,Jf,Jg,Jh,Ji,Jj,Jk,J9,Jl,Jm,wr,Jn,JA,JB,Jo,Jp,Jq,Jr,Js,Jt,Ju,Jv,Jw,Jx,Jy,Jz,J0,J1,J2,J3,J4,J5,reduceCtorEq,JC,JD,JE,JF,JG,JH,JI,JJ]) | ((with_reducible (first | apply Ok.br | apply Ok.gd | apply Ok.ld)) <;> (intro g; (try simp only [ZGS] at g); try (exfalso; omega)))))
  all_goals (first | rfl | (exfalso; omega) | exact leaf_t (by (try simp only [Bool.and_eq_true,Bool.or_eq_true,decide_eq_true_eq,Bool.not_eq_true',decide_eq_false_iff_not,Bool.false_eq_true,Bool.true_eq_false,Bool.not_false,Bool.not_true,eq_self,iff_true,iff_false,true_iff,false_iff,false_or,true_or,or_false,or_true,true_and,and_true,false_and,and_false,not_true_eq_false,not_false_eq_true]); (first | done | omega)) | exact leaf_f (by (try simp only [Bool.and_eq_true,Bool.or_eq_true,decide_eq_true_eq,Bool.not_eq_true',decide_eq_false_iff_not,Bool.false_eq_true,Bool.true_eq_false,Bool.not_false,Bool.not_true,eq_self,iff_true,iff_false,true_iff,false_iff,false_or,true_or,or_false,or_true,true_and,and_true,false_and,and_false,not_true_eq_false,not_false_eq_true]); (first | done | omega)) | exact leaf_b (by (try simp only [Bool.and_eq_true,Bool.or_eq_true,decide_eq_true_eq,Bool.not_eq_true',decide_eq_false_iff_not,Bool.false_eq_true,Bool.true_eq_false,Bool.not_false,Bool.not_true,eq_self,iff_true,iff_false,true_iff,false_iff,false_or,true_or,or_false,or_true,true_and,and_true,false_and,and_false,not_true_eq_false,not_false_eq_true]); (first | done | omega)))
theorem plain_at (o c q f t : Int) (a : SA) (n cap z : Nat) (h : Heap) : D X (.fn 86 []) [.agg [.int .i64 o, .int .i64 c, .int .i64 q, .int .i64 f, .int .i64 t, .sl a n cap z]] h = some (.bool (decide (c = 0 /\ q = 0 /\ f = 0 /\ t = 0 /\ (n : Int) = 0)), h) := by
  refine Ok.eq ?_
  (refine Ok.body body86 pin86 ?_; simp only [c86,Tryz.f86,Option.getD_some,nslot86,List.append_nil,List.map,List.replicate,List.length_cons,List.length_nil,Nat.reduceAdd,Nat.reduceSub,List.cons_append,List.nil_append])
  (repeat' (first | (simp -implicitDefEqProofs (maxSteps := 1000000) (disch := first | assumption | omega | (simp only [ZDI]; omega)) only [*,lenV,G86,Za,Zb,Zc,Zd,Ze,Zf,Zg,Zh,Zi,Zj,Zk,Zl,Zm,Zn,Zo,Ja,Jb,Jc,J6,Jd,Je,J7,J8,Jf,Jg,Jh,Ji,Jj,Jk,J9,Jl,Jm,wr,Jn,JA,JB,Jo,Jp,Jq,Jr,Js,Jt,Ju,Jv,Jw,Jx,Jy,Jz,J0,J1,J2,J3,J4,J5,reduceCtorEq,JC,JD,JE,JF,JG,JH,JI,JJ]) | ((with_reducible (first | apply Ok.br | apply Ok.gd | apply Ok.ld)) <;> (intro g; (try simp only [ZGS] at g); try (exfalso; omega)))))
  all_goals (first | rfl | (exfalso; omega) | exact leaf_t (by (try simp only [Bool.and_eq_true,Bool.or_eq_true,decide_eq_true_eq,Bool.not_eq_true',decide_eq_false_iff_not,Bool.false_eq_true,Bool.true_eq_false,Bool.not_false,Bool.not_true,eq_self,iff_true,iff_false,true_iff,false_iff,false_or,true_or,or_false,or_true,true_and,and_true,false_and,and_false,not_true_eq_false,not_false_eq_true]); (first | done | omega)) | exact leaf_f (by (try simp only [Bool.and_eq_true,Bool.or_eq_true,decide_eq_true_eq,Bool.not_eq_true',decide_eq_false_iff_not,Bool.false_eq_true,Bool.true_eq_false,Bool.not_false,Bool.not_true,eq_self,iff_true,iff_false,true_iff,false_iff,false_or,true_or,or_false,or_true,true_and,and_true,false_and,and_false,not_true_eq_false,not_false_eq_true]); (first | done | omega)) | exact leaf_b (by (try simp only [Bool.and_eq_true,Bool.or_eq_true,decide_eq_true_eq,Bool.not_eq_true',decide_eq_false_iff_not,Bool.false_eq_true,Bool.true_eq_false,Bool.not_false,Bool.not_true,eq_self,iff_true,iff_false,true_iff,false_iff,false_or,true_or,or_false,or_true,true_and,and_true,false_and,and_false,not_true_eq_false,not_false_eq_true]); (first | done | omega)))
def mayP (o c q f t : Int) (l : List ByteArray) : Prop :=
  ((o = 0 \/ o = 5) /\ c = 0 /\ q = 0 /\ f = 0 /\ t = 0 /\ (l.length : Int) = 0) \/
  ((1 <= o /\ o <= 4) /\ (0 <= c /\ c <= 3) /\ (1 <= q /\ q <= 1099511627776) /\ (0 <= f /\ f < t /\ t <= 256 /\ t - f <= 16) /\ ((o ≠ 2 /\ (l.length : Int) = 0) \/ (o = 2 /\ (l.length : Int) = t - f /\ (l.any fun s => !textB s) = false)))
instance (o c q f t : Int) (l : List ByteArray) : Decidable (mayP o c q f t l) := by unfold mayP; infer_instance
theorem may_at {o c q f t : Int} {v : V} {l : List ByteArray} {h : Heap} (hv : StrsAt h v l) : D X (.fn 55 []) [.agg [.int .i64 o, .int .i64 c, .int .i64 q, .int .i64 f, .int .i64 t, v]] h = some (.bool (decide (mayP o c q f t l)), h) := by
  refine Ok.eq ?_
  have hc := containsFunc_at hv _ (fun s => notText_at s h)
  obtain ⟨a, cap, z, rfl, hl, _, ha⟩ := hv
  clear ha
  generalize hb : (l.any fun s => !textB s) = b at hc
  (refine Ok.body body55 pin55 ?_; simp only [c55,Tryz.f55,Option.getD_some,nslot55,List.append_nil,List.map,List.replicate,List.length_cons,List.length_nil,Nat.reduceAdd,Nat.reduceSub,List.cons_append,List.nil_append])
  (repeat' (first | (simp -implicitDefEqProofs (maxSteps := 1000000) (disch := first | assumption | omega | (simp only [ZDI]; omega)) only [*,plain_at,isClients_at,lenV,G55,Za,Zb,Zc,Zd,Ze,Zf,Zg,Zh,Zi,Zj,Zk,Zl,Zm,Zn,Zo,Ja,Jb,Jc,J6,Jd,Je,J7,J8,Jf,Jg,Jh,Ji,Jj,Jk,J9,Jl,Jm,wr,Jn,JA,JB,Jo,Jp,Jq,Jr,Js,Jt,Ju,Jv,Jw,Jx,Jy,Jz,J0,J1,J2,J3,J4,J5,reduceCtorEq,JC,JD,JE,JF,JG,JH,JI,JJ]) | ((with_reducible (first | apply Ok.br | apply Ok.gd | apply Ok.ld)) <;> (intro g; (try simp only [ZGS] at g); try (exfalso; omega)))))
  all_goals (clear hc; cases b <;> (first | rfl | (exfalso; omega) | exact leaf_t (by (try unfold mayP); (try simp only [hb,Bool.and_eq_true,Bool.or_eq_true,decide_eq_true_eq,Bool.not_eq_true',decide_eq_false_iff_not,Bool.false_eq_true,Bool.true_eq_false,Bool.not_false,Bool.not_true,eq_self,iff_true,iff_false,true_iff,false_iff,false_or,true_or,or_false,or_true,true_and,and_true,false_and,and_false,not_true_eq_false,not_false_eq_true]); (first | done | omega)) | exact leaf_f (by (try unfold mayP); (try simp only [hb,Bool.and_eq_true,Bool.or_eq_true,decide_eq_true_eq,Bool.not_eq_true',decide_eq_false_iff_not,Bool.false_eq_true,Bool.true_eq_false,Bool.not_false,Bool.not_true,eq_self,iff_true,iff_false,true_iff,false_iff,false_or,true_or,or_false,or_true,true_and,and_true,false_and,and_false,not_true_eq_false,not_false_eq_true]); (first | done | omega)) | exact leaf_b (by (try unfold mayP); (try simp only [hb,Bool.and_eq_true,Bool.or_eq_true,decide_eq_true_eq,Bool.not_eq_true',decide_eq_false_iff_not,Bool.false_eq_true,Bool.true_eq_false,Bool.not_false,Bool.not_true,eq_self,iff_true,iff_false,true_iff,false_iff,false_or,true_or,or_false,or_true,true_and,and_true,false_and,and_false,not_true_eq_false,not_false_eq_true]); (first | done | omega))))
set_option maxHeartbeats 2000000 in
theorem rMay_at {o c q f t : Int} {v : V} {l : List ByteArray} {h : Heap} (hv : StrsAt h v l) : D X (.fn 32 []) [.agg [.int .i64 o, .int .i64 c, .int .i64 q, .int .i64 f, .int .i64 t, v]] h = some (.bool (decide (mayP o c q f t l)), h) := by
  refine Ok.eq ?_
  refine Ok.aim fun Q hQ => ?_
  have hQ' := Hid.mk hQ
  clear hQ
  obtain ⟨a, cap, z, rfl, hl, _, ha⟩ := hv
  have hh := Hid.mk ha
  clear ha
  (refine Ok.body body32 pin32 ?_; simp only [c32,Tryz.f32,Option.getD_some,nslot32,List.append_nil,List.map,List.replicate,List.length_cons,List.length_nil,Nat.reduceAdd,Nat.reduceSub,List.cons_append,List.nil_append])
  (repeat' (first | (simp -implicitDefEqProofs (maxSteps := 1000000) (disch := first | assumption | omega | (simp only [ZDI]; omega)) only [*,lenV,G32,Za,Zb,Zc,Zd,Ze,Zf,Zg,Zh,Zi,Zj,Zk,Zl,Zm,Zn,Zo,Ja,Jb,Jc,J6,Jd,Je,J7,J8,Jf,Jg,Jh,Ji,Jj,Jk,J9,Jl,Jm,wr,Jn,JA,JB,Jo,Jp,Jq,Jr,Js,Jt,Ju,Jv,Jw,Jx,Jy,Jz,J0,J1,J2,J3,J4,J5,reduceCtorEq,JC,JD,JE,JF,JG,JH,JI,JJ]) | ((with_reducible (first | apply Ok.br | apply Ok.gd | apply Ok.ld)) <;> (intro g; (try simp only [ZGS] at g); try (exfalso; omega)))))
  all_goals try (refine hQ'.out _ ?_; cases hb : (l.any fun s => !textB s) <;> (first | rfl | (exfalso; omega) | exact leaf_t (by (try unfold mayP); (try simp only [hb,Bool.and_eq_true,Bool.or_eq_true,decide_eq_true_eq,Bool.not_eq_true',decide_eq_false_iff_not,Bool.false_eq_true,Bool.true_eq_false,Bool.not_false,Bool.not_true,eq_self,iff_true,iff_false,true_iff,false_iff,false_or,true_or,or_false,or_true,true_and,and_true,false_and,and_false,not_true_eq_false,not_false_eq_true]); (first | done | omega)) | exact leaf_f (by (try unfold mayP); (try simp only [hb,Bool.and_eq_true,Bool.or_eq_true,decide_eq_true_eq,Bool.not_eq_true',decide_eq_false_iff_not,Bool.false_eq_true,Bool.true_eq_false,Bool.not_false,Bool.not_true,eq_self,iff_true,iff_false,true_iff,false_iff,false_or,true_or,or_false,or_true,true_and,and_true,false_and,and_false,not_true_eq_false,not_false_eq_true]); (first | done | omega)) | exact leaf_b (by (try unfold mayP); (try simp only [hb,Bool.and_eq_true,Bool.or_eq_true,decide_eq_true_eq,Bool.not_eq_true',decide_eq_false_iff_not,Bool.false_eq_true,Bool.true_eq_false,Bool.not_false,Bool.not_true,eq_self,iff_true,iff_false,true_iff,false_iff,false_or,true_or,or_false,or_true,true_and,and_true,false_and,and_false,not_true_eq_false,not_false_eq_true]); (first | done | omega))))
  refine Ok.loop [BF, BF, BT, BF, BT, BF, BF, BF, BF, BF, BF, BF, BF, BF, BF, BF, BF, BF, BF, BF, BF, BF, BF, BF, BF, BF, BF, BF, BF, BF, BF, BF, BF, BF, BF, BF, BF, BF, BF, BF, BF, BF, BF, BF, BF, BF, BF, BF, BF, BF, BF, BF, BF, BF, BF, BF, BF, BF, BF, BF, BF, BF, BF, BF, BF, BF, BF, BF, BF, BF, BF, BF, BF, BF, BF, BF, BF, BF, BF, BF, BF, BF, BF, BF, BF, BF, BF, BF, BF, BF, BF, BF, BF, BF, BF, BF, BF, BF, BF, BF, BT, BT, BT, BT, BT, BT, BT, BT, BF, BF, BF, BF, BF, BF, BF, BF, BF] (fun n s => ∃ i : Nat, n = l.length - i /\ i <= l.length /\ tv s.e 100 = .v (.int .i64 i) /\ s.l = [(1, [.int .i64 2, .int .i64 c, .int .i64 q, .int .i64 f, .int .i64 t, .sl a l.length cap z])] /\ s.h = h /\ ∀ (j : Nat) (s : ByteArray), j < i -> l[j]? = some s -> textB s = true)
    (fun x s => s.l = [(1, [.int .i64 2, .int .i64 c, .int .i64 q, .int .i64 f, .int .i64 t, .sl a l.length cap z])] /\ s.h = h /\ ((x = .exit 0 /\ (l.any fun s => !textB s) = false) \/ (x = .ret /\ (l.any fun s => !textB s) = true /\ tv s.e 2 = .v (.bool false)))) (l.length - 0) ⟨0, rfl, by omega, rfl, rfl, rfl, fun j s hj => by omega⟩ ?_ ?_
  · intro n ⟨e', l', h'⟩ hW ⟨i, hn, hi, h8, h1, h2, hno⟩
    dsimp only at hW h8 h1 h2
    subst l' h'
    rw [hW.spread]
    simp only [spread_t,spread_f,spread_n,Nat.zero_add,Nat.reduceAdd,h8]
    by_cases hlt : i < l.length
    · rcases hh.out with rfl | ⟨b, g, o, rw, full, rfl, hb, hfull⟩
      · simp at hlt
      · obtain ⟨s, hs⟩ : ∃ s, l[i]? = some s := ⟨_, List.getElem?_eq_getElem hlt⟩
        have hf := hfull i s hs
        have hfn := rIsText_at s h
        cases hps : textB s with
        | false =>
          rw [hps] at hfn
          simp -implicitDefEqProofs (maxSteps := 1000000) (disch := first | assumption | omega | (simp only [ZDI]; omega)) only [*,Int.ofNat_lt,Int.natCast_nonneg,G32,Za,Zb,Zc,Zd,Ze,Zf,Zg,Zh,Zi,Zj,Zk,Zl,Zm,Zn,Zo,Ja,Jb,Jc,J6,Jd,Je,J7,J8,Jf,Jg,Jh,Ji,Jj,Jk,J9,Jl,Jm,wr,Jn,JA,JB,Jo,Jp,Jq,Jr,Js,Jt,Ju,Jv,Jw,Jx,Jy,Jz,J0,J1,J2,J3,J4,J5,reduceCtorEq,JC,JD,JE,JF,JG,JH,JI,JJ]
          exact Turn.ret ⟨rfl, rfl, rfl, .inr ⟨rfl, List.any_eq_true.2 ⟨s, List.mem_of_getElem? hs, by rw [hps]; rfl⟩, rfl⟩⟩
        | true =>
          rw [hps] at hfn
          simp -implicitDefEqProofs (maxSteps := 1000000) (disch := first | assumption | omega | (simp only [ZDI]; omega)) only [*,Int.ofNat_lt,Int.natCast_nonneg,G32,Za,Zb,Zc,Zd,Ze,Zf,Zg,Zh,Zi,Zj,Zk,Zl,Zm,Zn,Zo,Ja,Jb,Jc,J6,Jd,Je,J7,J8,Jf,Jg,Jh,Ji,Jj,Jk,J9,Jl,Jm,wr,Jn,JA,JB,Jo,Jp,Jq,Jr,Js,Jt,Ju,Jv,Jw,Jx,Jy,Jz,J0,J1,J2,J3,J4,J5,reduceCtorEq,JC,JD,JE,JF,JG,JH,JI,JJ]
          refine Turn.next (l.length - (i + 1)) (by omega) ⟨rfl, i + 1, rfl, by omega, rfl, rfl, rfl, fun j s' hj hs' => ?_⟩
          by_cases hji : j = i
          · subst hji
            rw [hs] at hs'
            cases hs'
            exact hps
          · exact hno j s' (by omega) hs'
    · simp -implicitDefEqProofs (maxSteps := 1000000) (disch := first | assumption | omega | (simp only [ZDI]; omega)) only [*,Int.ofNat_lt,G32,Za,Zb,Zc,Zd,Ze,Zf,Zg,Zh,Zi,Zj,Zk,Zl,Zm,Zn,Zo,Ja,Jb,Jc,J6,Jd,Je,J7,J8,Jf,Jg,Jh,Ji,Jj,Jk,J9,Jl,Jm,wr,Jn,JA,JB,Jo,Jp,Jq,Jr,Js,Jt,Ju,Jv,Jw,Jx,Jy,Jz,J0,J1,J2,J3,J4,J5,reduceCtorEq,JC,JD,JE,JF,JG,JH,JI,JJ]
      refine Turn.exit ⟨rfl, rfl, rfl, .inl ⟨rfl, ?_⟩⟩
      rw [List.any_eq_false]
      intro s hs
      obtain ⟨j, hj⟩ := List.getElem?_of_mem hs
      have := (List.getElem?_eq_some_iff.1 hj).1
      rw [hno j s (by omega) hj]
      simp
  · intro x ⟨e', l', h'⟩ hW ⟨h1, h2, hE⟩
    dsimp only at hW h1 h2 hE
    subst l' h'
    rw [hW.spread]
    rcases hE with ⟨rfl, hany⟩ | ⟨rfl, hany, h4⟩
    · simp only [spread_t,spread_f,spread_n,Nat.zero_add,Nat.reduceAdd]
      simp -implicitDefEqProofs (maxSteps := 1000000) (disch := first | assumption | omega | (simp only [ZDI]; omega)) only [*,lenV,G32,Za,Zb,Zc,Zd,Ze,Zf,Zg,Zh,Zi,Zj,Zk,Zl,Zm,Zn,Zo,Ja,Jb,Jc,J6,Jd,Je,J7,J8,Jf,Jg,Jh,Ji,Jj,Jk,J9,Jl,Jm,wr,Jn,JA,JB,Jo,Jp,Jq,Jr,Js,Jt,Ju,Jv,Jw,Jx,Jy,Jz,J0,J1,J2,J3,J4,J5,reduceCtorEq,JC,JD,JE,JF,JG,JH,JI,JJ]
      refine hQ'.out _ ?_
      (first | rfl | (exfalso; omega) | exact leaf_t (by (try unfold mayP); (try simp only [hany,Bool.and_eq_true,Bool.or_eq_true,decide_eq_true_eq,Bool.not_eq_true',decide_eq_false_iff_not,Bool.false_eq_true,Bool.true_eq_false,Bool.not_false,Bool.not_true,eq_self,iff_true,iff_false,true_iff,false_iff,false_or,true_or,or_false,or_true,true_and,and_true,false_and,and_false,not_true_eq_false,not_false_eq_true]); (first | done | omega)) | exact leaf_f (by (try unfold mayP); (try simp only [hany,Bool.and_eq_true,Bool.or_eq_true,decide_eq_true_eq,Bool.not_eq_true',decide_eq_false_iff_not,Bool.false_eq_true,Bool.true_eq_false,Bool.not_false,Bool.not_true,eq_self,iff_true,iff_false,true_iff,false_iff,false_or,true_or,or_false,or_true,true_and,and_true,false_and,and_false,not_true_eq_false,not_false_eq_true]); (first | done | omega)) | exact leaf_b (by (try unfold mayP); (try simp only [hany,Bool.and_eq_true,Bool.or_eq_true,decide_eq_true_eq,Bool.not_eq_true',decide_eq_false_iff_not,Bool.false_eq_true,Bool.true_eq_false,Bool.not_false,Bool.not_true,eq_self,iff_true,iff_false,true_iff,false_iff,false_or,true_or,or_false,or_true,true_and,and_true,false_and,and_false,not_true_eq_false,not_false_eq_true]); (first | done | omega)))
    · simp only [spread_t,spread_f,spread_n,Nat.zero_add,Nat.reduceAdd,h4]
      simp -implicitDefEqProofs (maxSteps := 1000000) (disch := first | assumption | omega | (simp only [ZDI]; omega)) only [*,lenV,G32,Za,Zb,Zc,Zd,Ze,Zf,Zg,Zh,Zi,Zj,Zk,Zl,Zm,Zn,Zo,Ja,Jb,Jc,J6,Jd,Je,J7,J8,Jf,Jg,Jh,Ji,Jj,Jk,J9,Jl,Jm,wr,Jn,JA,JB,Jo,Jp,Jq,Jr,Js,Jt,Ju,Jv,Jw,Jx,Jy,Jz,J0,J1,J2,J3,J4,J5,reduceCtorEq,JC,JD,JE,JF,JG,JH,JI,JJ]
      refine hQ'.out _ ?_
      (first | rfl | (exfalso; omega) | exact leaf_t (by (try unfold mayP); (try simp only [hany,Bool.and_eq_true,Bool.or_eq_true,decide_eq_true_eq,Bool.not_eq_true',decide_eq_false_iff_not,Bool.false_eq_true,Bool.true_eq_false,Bool.not_false,Bool.not_true,eq_self,iff_true,iff_false,true_iff,false_iff,false_or,true_or,or_false,or_true,true_and,and_true,false_and,and_false,not_true_eq_false,not_false_eq_true]); (first | done | omega)) | exact leaf_f (by (try unfold mayP); (try simp only [hany,Bool.and_eq_true,Bool.or_eq_true,decide_eq_true_eq,Bool.not_eq_true',decide_eq_false_iff_not,Bool.false_eq_true,Bool.true_eq_false,Bool.not_false,Bool.not_true,eq_self,iff_true,iff_false,true_iff,false_iff,false_or,true_or,or_false,or_true,true_and,and_true,false_and,and_false,not_true_eq_false,not_false_eq_true]); (first | done | omega)) | exact leaf_b (by (try unfold mayP); (try simp only [hany,Bool.and_eq_true,Bool.or_eq_true,decide_eq_true_eq,Bool.not_eq_true',decide_eq_false_iff_not,Bool.false_eq_true,Bool.true_eq_false,Bool.not_false,Bool.not_true,eq_self,iff_true,iff_false,true_iff,false_iff,false_or,true_or,or_false,or_true,true_and,and_true,false_and,and_false,not_true_eq_false,not_false_eq_true]); (first | done | omega)))
end Go.Ev
set_option maxRecDepth 100000
namespace Go.Ev
open Go.Ev renaming exPure -> Ja, ofValue -> Jb, cellsV -> Jc, load -> Jd, store -> Je, binOp -> Jf, intOp -> Jg, rdV -> Jh, vsame -> Ji, vsames -> Jj, makeSliceV -> Jk, resV -> Jl, isCell -> Jm, nilCheckV -> Jn, allV -> Jo, builtinV -> Jp, lenV -> Jq, indexAddrV -> Jr, unOp -> Js, minmaxV -> Jt, minmax -> Ju, sliceV -> Jv, asInt -> Jw, appendV -> Jx, forkB -> Jy, roY -> Jz, rwB -> J0, copyV -> J1, clearV -> J2, convV -> J3, sliceCells -> J4, shift -> J5
open Bool renaming true -> BT, false -> BF
open Nat renaming reduceEqDiff -> J6, reduceLT -> J7, reduceAdd -> J8, reduceBEq -> J9, reduceSub -> JA, reduceMul -> JB, reduceLeDiff -> JJ
open Int renaming reduceLT -> JC, reduceLE -> JD, reduceAdd -> JE, reduceSub -> JF, reduceNeg -> JG, reduceToNat -> JH, reduceEq -> JI
open Go.Proofs
def prvB (p : Option RP) (y : RP) : Bool := match p with | none => true | some p => ltR p y
def risB : Option RP -> List RP -> Bool
  | _, [] => true
  | p, y :: r => decide (refP y.1 y.2) && prvB p y && risB (some y) r
def prv (l : List RP) (i : Nat) : Option RP := if i = 0 then none else l[i - 1]?
theorem risB_step {l : List RP} {i : Nat} {y : RP} (hy : l[i]? = some y) : risB (prv l i) (l.drop i) = (decide (refP y.1 y.2) && prvB (prv l i) y && risB (prv l (i + 1)) (l.drop (i + 1))) := by
  have hi := (List.getElem?_eq_some_iff.1 hy).1
  rw [List.drop_eq_getElem_cons hi]
  have e : l[i] = y := by rw [List.getElem?_eq_getElem hi] at hy; exact Option.some.inj hy
  have e2 : prv l (i + 1) = some y := by unfold prv; rw [if_neg (by omega), Nat.add_sub_cancel, hy]
  rw [e, e2, risB]
theorem risB_end {l : List RP} {i : Nat} (h : l.length <= i) : risB (prv l i) (l.drop i) = true := by
  rw [List.drop_of_length_le h, risB]
set_option maxHeartbeats 2000000 in
theorem rising_at {h : Heap} {v : V} {l : List RP} (hr : RowAt h v l) : D X (.fn 76 []) [v] h = some (.bool (risB none l && decide ((l.length : Int) <= 4096)), h) := by
  refine Ok.eq ?_
  refine Ok.aim fun Q hQ => ?_
  have hQ' := Hid.mk hQ
  clear hQ
  obtain ⟨a, cap, z, rfl, h1, h1', h2⟩ := hr
  have h2' := Hid.mk h2
  clear h2
  (refine Ok.body body76 pin76 ?_; simp only [c76,Tryz.f76,Option.getD_some,nslot76,List.append_nil,List.map,List.replicate,List.length_cons,List.length_nil,Nat.reduceAdd,Nat.reduceSub,List.cons_append,List.nil_append])
  (repeat' (first | (simp -implicitDefEqProofs (maxSteps := 1000000) (disch := first | assumption | omega | (simp only [ZDI]; omega)) only [*,lenV,G76,Za,Zb,Zc,Zd,Ze,Zf,Zg,Zh,Zi,Zj,Zk,Zl,Zm,Zn,Zo,Ja,Jb,Jc,J6,Jd,Je,J7,J8,Jf,Jg,Jh,Ji,Jj,Jk,J9,Jl,Jm,wr,Jn,JA,JB,Jo,Jp,Jq,Jr,Js,Jt,Ju,Jv,Jw,Jx,Jy,Jz,J0,J1,J2,J3,J4,J5,reduceCtorEq,JC,JD,JE,JF,JG,JH,JI,JJ]) | ((with_reducible (first | apply Ok.br | apply Ok.gd | apply Ok.ld)) <;> (intro g; (try simp only [ZGS] at g); try (exfalso; omega)))))
  refine Ok.loop [BF, BF, BT, BT, BT, BF, BF, BT, BT, BT, BT, BT, BT, BT, BT, BT, BT, BT, BT, BT, BT, BT, BT, BT, BT, BT, BT, BT, BT, BT, BF, BF, BF] (fun n s2 => ∃ (i w0 : Nat) (q0 : List V), n = l.length - i /\ i <= l.length /\ tv s2.e 7 = .v (.int .i64 i) /\ s2.l = [(w0, q0)] /\ s2.h = h /\ risB none l = risB (prv l i) (l.drop i))
    (fun y s2 => s2.h = h /\ (∃ (w0 : Nat) (q0 : List V), s2.l = [(w0, q0)]) /\ ((y = .exit 0 /\ risB none l = true) \/ (y = .ret /\ risB none l = false /\ tv s2.e 2 = .v (.bool false)))) (l.length - 0) ⟨0, 0, [], rfl, Nat.zero_le _, rfl, rfl, rfl, rfl⟩ ?_ ?_
  · intro n ⟨e', l', H'⟩ hW ⟨i, w0, q0, hm, hi, h9, k2, k3, hno⟩
    dsimp only at hW h9 k2 k3
    subst l' H'
    rw [hW.spread]
    simp only [spread_t,spread_f,spread_n,Nat.zero_add,Nat.reduceAdd,h9]
    clear hW hQ'
    by_cases hlt : i < l.length
    · have hlt' : (i : Int) < (l.length : Int) := by omega
      have g1 : 0 <= (i : Int) /\ (i : Int) < (l.length : Int) := by omega
      rcases h2'.out with rfl | ⟨b, g, o, rw, full, rfl, hb, hfull, ho⟩
      · simp at hlt
      · obtain ⟨⟨y1, y2⟩, hy⟩ : ∃ y, l[i]? = some y := ⟨_, List.getElem?_eq_getElem hlt⟩
        have hf := hfull i _ hy
        rw [risB_step hy] at hno
        dsimp only at hf hno
        have hr1 := isRef_at y1 y2 h
        generalize decide (refP y1 y2) = rb at hr1 hno
        by_cases h0 : i = 0
        · have hp : prvB (prv l i) (y1, y2) = true := by unfold prv; rw [if_pos h0]; rfl
          rw [hp] at hno
          have g0 : ¬ (0 : Int) < (i : Int) := by omega
          have hno' := Hid.mk hno
          clear hno hy hfull hp h0
          cases rb
          · (repeat' (first | (simp -implicitDefEqProofs (maxSteps := 1000000) (disch := first | assumption | omega | (simp only [ZDI]; omega)) only [*,lenV,G76,Za,Zb,Zc,Zd,Ze,Zf,Zg,Zh,Zi,Zj,Zk,Zl,Zm,Zn,Zo,Ja,Jb,Jc,J6,Jd,Je,J7,J8,Jf,Jg,Jh,Ji,Jj,Jk,J9,Jl,Jm,wr,Jn,JA,JB,Jo,Jp,Jq,Jr,Js,Jt,Ju,Jv,Jw,Jx,Jy,Jz,J0,J1,J2,J3,J4,J5,reduceCtorEq,JC,JD,JE,JF,JG,JH,JI,JJ]) | ((with_reducible (first | apply Ok.br | apply Ok.gd | apply Ok.ld)) <;> (intro g; (try simp only [ZGS] at g); try (exfalso; omega)))))
            exact Turn.ret ⟨rfl, rfl, ⟨_, _, rfl⟩, .inr ⟨rfl, by rw [hno'.out]; rfl, rfl⟩⟩
          · (repeat' (first | (simp -implicitDefEqProofs (maxSteps := 1000000) (disch := first | assumption | omega | (simp only [ZDI]; omega)) only [*,lenV,G76,Za,Zb,Zc,Zd,Ze,Zf,Zg,Zh,Zi,Zj,Zk,Zl,Zm,Zn,Zo,Ja,Jb,Jc,J6,Jd,Je,J7,J8,Jf,Jg,Jh,Ji,Jj,Jk,J9,Jl,Jm,wr,Jn,JA,JB,Jo,Jp,Jq,Jr,Js,Jt,Ju,Jv,Jw,Jx,Jy,Jz,J0,J1,J2,J3,J4,J5,reduceCtorEq,JC,JD,JE,JF,JG,JH,JI,JJ]) | ((with_reducible (first | apply Ok.br | apply Ok.gd | apply Ok.ld)) <;> (intro g; (try simp only [ZGS] at g); try (exfalso; omega)))))
            exact Turn.next (l.length - (i + 1)) (by omega) ⟨rfl, i + 1, _, _, by omega, by omega, rfl, rfl, rfl, by rw [hno'.out]; rfl⟩
        · obtain ⟨⟨x1, x2⟩, hx⟩ : ∃ x, l[i - 1]? = some x := ⟨_, List.getElem?_eq_getElem (by omega)⟩
          have hf2 := hfull (i - 1) _ hx
          dsimp only at hf2
          have hp : prvB (prv l i) (y1, y2) = ltR (x1, x2) (y1, y2) := by unfold prv; rw [if_neg h0, hx]; rfl
          rw [hp] at hno
          have hl1 := less_at (x1, x2) (y1, y2) h
          dsimp only at hl1
          generalize ltR (x1, x2) (y1, y2) = lb at hl1 hno
          have e1 : (i : Int) - 1 = ((i - 1 : Nat) : Int) := by omega
          have g0 : (0 : Int) < (i : Int) := by omega
          have g2 : 0 <= ((i - 1 : Nat) : Int) /\ ((i - 1 : Nat) : Int) < (l.length : Int) := by omega
          have hno' := Hid.mk hno
          clear hno hy hfull hp hx
          cases rb
          · (repeat' (first | (simp -implicitDefEqProofs (maxSteps := 1000000) (disch := first | assumption | omega | (simp only [ZDI]; omega)) only [*,lenV,G76,Za,Zb,Zc,Zd,Ze,Zf,Zg,Zh,Zi,Zj,Zk,Zl,Zm,Zn,Zo,Ja,Jb,Jc,J6,Jd,Je,J7,J8,Jf,Jg,Jh,Ji,Jj,Jk,J9,Jl,Jm,wr,Jn,JA,JB,Jo,Jp,Jq,Jr,Js,Jt,Ju,Jv,Jw,Jx,Jy,Jz,J0,J1,J2,J3,J4,J5,reduceCtorEq,JC,JD,JE,JF,JG,JH,JI,JJ]) | ((with_reducible (first | apply Ok.br | apply Ok.gd | apply Ok.ld)) <;> (intro g; (try simp only [ZGS] at g); try (exfalso; omega)))))
            exact Turn.ret ⟨rfl, rfl, ⟨_, _, rfl⟩, .inr ⟨rfl, by rw [hno'.out]; rfl, rfl⟩⟩
          · cases lb
            · (repeat' (first | (simp -implicitDefEqProofs (maxSteps := 1000000) (disch := first | assumption | omega | (simp only [ZDI]; omega)) only [*,lenV,G76,Za,Zb,Zc,Zd,Ze,Zf,Zg,Zh,Zi,Zj,Zk,Zl,Zm,Zn,Zo,Ja,Jb,Jc,J6,Jd,Je,J7,J8,Jf,Jg,Jh,Ji,Jj,Jk,J9,Jl,Jm,wr,Jn,JA,JB,Jo,Jp,Jq,Jr,Js,Jt,Ju,Jv,Jw,Jx,Jy,Jz,J0,J1,J2,J3,J4,J5,reduceCtorEq,JC,JD,JE,JF,JG,JH,JI,JJ]) | ((with_reducible (first | apply Ok.br | apply Ok.gd | apply Ok.ld)) <;> (intro g; (try simp only [ZGS] at g); try (exfalso; omega)))))
              exact Turn.ret ⟨rfl, rfl, ⟨_, _, rfl⟩, .inr ⟨rfl, by rw [hno'.out]; rfl, rfl⟩⟩
            · (repeat' (first | (simp -implicitDefEqProofs (maxSteps := 1000000) (disch := first | assumption | omega | (simp only [ZDI]; omega)) only [*,lenV,G76,Za,Zb,Zc,Zd,Ze,Zf,Zg,Zh,Zi,Zj,Zk,Zl,Zm,Zn,Zo,Ja,Jb,Jc,J6,Jd,Je,J7,J8,Jf,Jg,Jh,Ji,Jj,Jk,J9,Jl,Jm,wr,Jn,JA,JB,Jo,Jp,Jq,Jr,Js,Jt,Ju,Jv,Jw,Jx,Jy,Jz,J0,J1,J2,J3,J4,J5,reduceCtorEq,JC,JD,JE,JF,JG,JH,JI,JJ]) | ((with_reducible (first | apply Ok.br | apply Ok.gd | apply Ok.ld)) <;> (intro g; (try simp only [ZGS] at g); try (exfalso; omega)))))
              exact Turn.next (l.length - (i + 1)) (by omega) ⟨rfl, i + 1, _, _, by omega, by omega, rfl, rfl, rfl, by rw [hno'.out]; rfl⟩
    · have hlt' : ¬ (i : Int) < (l.length : Int) := by omega
      rw [risB_end (by omega)] at hno
      have hno' := Hid.mk hno
      clear hno
      (repeat' (first | (simp -implicitDefEqProofs (maxSteps := 1000000) (disch := first | assumption | omega | (simp only [ZDI]; omega)) only [*,lenV,G76,Za,Zb,Zc,Zd,Ze,Zf,Zg,Zh,Zi,Zj,Zk,Zl,Zm,Zn,Zo,Ja,Jb,Jc,J6,Jd,Je,J7,J8,Jf,Jg,Jh,Ji,Jj,Jk,J9,Jl,Jm,wr,Jn,JA,JB,Jo,Jp,Jq,Jr,Js,Jt,Ju,Jv,Jw,Jx,Jy,Jz,J0,J1,J2,J3,J4,J5,reduceCtorEq,JC,JD,JE,JF,JG,JH,JI,JJ]) | ((with_reducible (first | apply Ok.br | apply Ok.gd | apply Ok.ld)) <;> (intro g; (try simp only [ZGS] at g); try (exfalso; omega)))))
      exact Turn.exit ⟨rfl, rfl, ⟨_, _, rfl⟩, .inl ⟨rfl, hno'.out⟩⟩
  · intro y ⟨e', l', H'⟩ hW ⟨k3, ⟨w0, q0, k2⟩, hy⟩
    dsimp only at hW k2 k3 hy
    subst l' H'
    rw [hW.spread]
    clear hW
    rcases hy with ⟨rfl, hm⟩ | ⟨rfl, hm, h4⟩
    · simp only [spread_t,spread_f,spread_n,Nat.zero_add,Nat.reduceAdd]
      have hm' := Hid.mk hm
      clear hm
      (repeat' (first | (simp -implicitDefEqProofs (maxSteps := 1000000) (disch := first | assumption | omega | (simp only [ZDI]; omega)) only [*,lenV,G76,Za,Zb,Zc,Zd,Ze,Zf,Zg,Zh,Zi,Zj,Zk,Zl,Zm,Zn,Zo,Ja,Jb,Jc,J6,Jd,Je,J7,J8,Jf,Jg,Jh,Ji,Jj,Jk,J9,Jl,Jm,wr,Jn,JA,JB,Jo,Jp,Jq,Jr,Js,Jt,Ju,Jv,Jw,Jx,Jy,Jz,J0,J1,J2,J3,J4,J5,reduceCtorEq,JC,JD,JE,JF,JG,JH,JI,JJ]) | ((with_reducible (first | apply Ok.br | apply Ok.gd | apply Ok.ld)) <;> (intro g; (try simp only [ZGS] at g); try (exfalso; omega)))))
      exact hQ'.out _ (by rw [hm'.out, Bool.true_and])
    · simp only [spread_t,spread_f,spread_n,Nat.zero_add,Nat.reduceAdd,h4]
      have hm' := Hid.mk hm
      clear hm
      (repeat' (first | (simp -implicitDefEqProofs (maxSteps := 1000000) (disch := first | assumption | omega | (simp only [ZDI]; omega)) only [*,lenV,G76,Za,Zb,Zc,Zd,Ze,Zf,Zg,Zh,Zi,Zj,Zk,Zl,Zm,Zn,Zo,Ja,Jb,Jc,J6,Jd,Je,J7,J8,Jf,Jg,Jh,Ji,Jj,Jk,J9,Jl,Jm,wr,Jn,JA,JB,Jo,Jp,Jq,Jr,Js,Jt,Ju,Jv,Jw,Jx,Jy,Jz,J0,J1,J2,J3,J4,J5,reduceCtorEq,JC,JD,JE,JF,JG,JH,JI,JJ]) | ((with_reducible (first | apply Ok.br | apply Ok.gd | apply Ok.ld)) <;> (intro g; (try simp only [ZGS] at g); try (exfalso; omega)))))
      exact hQ'.out _ (by rw [hm'.out, Bool.false_and])
def zIn (x : In) : In := ⟨x.l, x.i, x.bn, x.bd, 0, 0, 0, false, 0, 0, 0, 0, 0, .sl .nil 0 0 0, [], 0, .sl .nil 0 0 0, []⟩
theorem InAt.zero (h : Heap) (x : In) : InAt h (zIn x) := ⟨⟨.nil, 0, 0, rfl, Nat.zero_le _, trivial, .inl rfl⟩, ⟨.nil, 0, 0, rfl, Nat.le_refl _, by decide, .inl rfl⟩⟩
def nonB (x : In) : Bool := decide (x.vn = 0 /\ x.vd = 0 /\ x.sq = 0) && !x.sm && (decide (smC x.o x.c x.q x.f x.t 0 0 0 0 0) && decide (x.dl = [])) && decide (x.pl = [])
theorem nonB_eq {x : In} (h : x.st = 0) : smB x (zIn x) = nonB x := by
  unfold smB nonB
  have e : smN x (zIn x) ↔ x.vn = 0 /\ x.vd = 0 /\ x.sq = 0 := by
    unfold smN zIn
    simp [h]
  have e2 : decide (smN x (zIn x)) = decide (x.vn = 0 /\ x.vd = 0 /\ x.sq = 0) := decide_eq_decide.2 e
  rw [e2]
  have e3 : (x.sm == (zIn x).sm) = !x.sm := by simp [zIn]
  rw [e3]
  rfl
theorem unknown_at {h : Heap} {x : In} (hx : InAt h x) : D X (.fn 75 []) [.agg (inV x)] h = some (.bool (smB x (zIn x)), h) := by
  refine Ok.eq ?_
  have h1 := same_at hx (InAt.zero h x)
  generalize smB x (zIn x) = b at h1 ⊢
  simp only [inV,zIn] at h1 ⊢
  clear hx
  (refine Ok.body body75 pin75 ?_; simp only [c75,Tryz.f75,Option.getD_some,nslot75,List.append_nil,List.map,List.replicate,List.length_cons,List.length_nil,Nat.reduceAdd,Nat.reduceSub,List.cons_append,List.nil_append])
  (repeat' (first | (simp -implicitDefEqProofs (maxSteps := 1000000) (disch := first | assumption | omega | (simp only [ZDI]; omega)) only [*,G75,Za,Zb,Zc,Zd,Ze,Zf,Zg,Zh,Zi,Zj,Zk,Zl,Zm,Zn,Zo,Ja,Jb,Jc,J6,Jd,Je,J7,J8,Jf,Jg,Jh,Ji,Jj,Jk,J9,Jl,Jm,wr,Jn,JA,JB,Jo,Jp,Jq,Jr,Js,Jt,Ju,Jv,Jw,Jx,Jy,Jz,J0,J1,J2,J3,J4,J5,reduceCtorEq,JC,JD,JE,JF,JG,JH,JI,JJ]) | ((with_reducible (first | apply Ok.br | apply Ok.gd | apply Ok.ld)) <;> (intro g; (try simp only [ZGS] at g); try (exfalso; omega)))))
def stP (x : In) : Prop := (0 <= x.st /\ x.st <= 3) /\ (0 <= x.sq /\ x.sq <= 1099511627776)
instance (x : In) : Decidable (stP x) := by unfold stP; infer_instance
def hdB (x : In) : Bool := decide (refP x.l x.i) && decide (balP x.bn x.bd) && decide (balP x.vn x.vd) && !decide (lsP x.bn x.bd x.vn x.vd) && decide (stP x)
def bodB (x : In) : Bool := decide (mayP x.o x.c x.q x.f x.t x.dl) && (risB none x.pl && decide ((x.pl.length : Int) <= 4096))
def mayB (x : In) : Bool := hdB x && cond (decide (x.st = 0)) (nonB x) (bodB x)
set_option maxHeartbeats 4000000 in
theorem mayI_at {h : Heap} {x : In} (hx : InAt h x) : D X (.fn 44 []) [.agg (inV x)] h = some (.bool (mayB x), h) := by
  refine Ok.eq ?_
  have h1 := may_at (o := x.o) (c := x.c) (q := x.q) (f := x.f) (t := x.t) hx.1
  have h2 := rising_at hx.2
  have h3 := unknown_at hx
  obtain ⟨a, cap, z, e1⟩ := hx.1.sl
  obtain ⟨a3, cap3, z3, e3⟩ := hx.2.sl
  have hu : x.st = 0 -> smB x (zIn x) = nonB x := nonB_eq
  simp only [inV,e1] at h1
  simp only [inV,e3] at h2
  simp only [inV,e1,e3] at h3
  unfold mayB bodB hdB
  simp only [inV,e1,e3]
  clear e1 e3 hx
  have p1 := isRef_at x.l x.i h
  have p2 := isBallot_at x.bn x.bd h
  have p3 := isBallot_at x.vn x.vd h
  have p4 := lessBallot_at x.bn x.bd x.vn x.vd h
  generalize decide (refP x.l x.i) = r1 at p1 ⊢
  generalize decide (balP x.bn x.bd) = r2 at p2 ⊢
  generalize decide (balP x.vn x.vd) = r3 at p3 ⊢
  generalize decide (lsP x.bn x.bd x.vn x.vd) = r4 at p4 ⊢
  obtain ⟨rs, ers, b1, b0⟩ := truth (stP x)
  rw [ers]
  clear ers
  generalize decide (mayP x.o x.c x.q x.f x.t x.dl) = mb at h1 ⊢
  generalize (risB none x.pl && decide ((x.pl.length : Int) <= 4096)) = rb at h2 ⊢
  by_cases hst : x.st = 0
  · rw [decide_eq_true hst, <- hu hst]
    rw [hst] at h3
    clear hu
    generalize smB x (zIn x) = nb at h3 ⊢
    (refine Ok.body body44 pin44 ?_; simp only [c44,Tryz.f44,Option.getD_some,nslot44,List.append_nil,List.map,List.replicate,List.length_cons,List.length_nil,Nat.reduceAdd,Nat.reduceSub,List.cons_append,List.nil_append])
    (repeat' (first | (simp -implicitDefEqProofs (maxSteps := 1000000) (disch := first | assumption | omega | (simp only [ZDI]; omega)) only [*,G44,Za,Zb,Zc,Zd,Ze,Zf,Zg,Zh,Zi,Zj,Zk,Zl,Zm,Zn,Zo,Ja,Jb,Jc,J6,Jd,Je,J7,J8,Jf,Jg,Jh,Ji,Jj,Jk,J9,Jl,Jm,wr,Jn,JA,JB,Jo,Jp,Jq,Jr,Js,Jt,Ju,Jv,Jw,Jx,Jy,Jz,J0,J1,J2,J3,J4,J5,reduceCtorEq,JC,JD,JE,JF,JG,JH,JI,JJ]) | ((with_reducible (first | apply Ok.br | apply Ok.gd | apply Ok.ld)) <;> (intro g; (try simp only [ZGS] at g); try (exfalso; omega)))))
    all_goals first
      | (simp [*]; done)
      | (rw [b1.out (by unfold stP; omega)]; simp [*]; done)
      | (rw [b0.out (by unfold stP; omega)]; simp; done)
  · rw [decide_eq_false hst]
    clear hu h3
    generalize nonB x = nb
    (refine Ok.body body44 pin44 ?_; simp only [c44,Tryz.f44,Option.getD_some,nslot44,List.append_nil,List.map,List.replicate,List.length_cons,List.length_nil,Nat.reduceAdd,Nat.reduceSub,List.cons_append,List.nil_append])
    (repeat' (first | (simp -implicitDefEqProofs (maxSteps := 1000000) (disch := first | assumption | omega | (simp only [ZDI]; omega)) only [*,G44,Za,Zb,Zc,Zd,Ze,Zf,Zg,Zh,Zi,Zj,Zk,Zl,Zm,Zn,Zo,Ja,Jb,Jc,J6,Jd,Je,J7,J8,Jf,Jg,Jh,Ji,Jj,Jk,J9,Jl,Jm,wr,Jn,JA,JB,Jo,Jp,Jq,Jr,Js,Jt,Ju,Jv,Jw,Jx,Jy,Jz,J0,J1,J2,J3,J4,J5,reduceCtorEq,JC,JD,JE,JF,JG,JH,JI,JJ]) | ((with_reducible (first | apply Ok.br | apply Ok.gd | apply Ok.ld)) <;> (intro g; (try simp only [ZGS] at g); try (exfalso; omega)))))
    all_goals first
      | (simp [*]; done)
      | (rw [b1.out (by unfold stP; omega)]; simp [*]; done)
      | (rw [b0.out (by unfold stP; omega)]; simp; done)
set_option maxHeartbeats 8000000 in
theorem rMayI_at {h : Heap} {x : In} (hx : InAt h x) : D X (.fn 12 []) [.agg (inV x)] h = some (.bool (mayB x), h) := by
  refine Ok.eq ?_
  refine Ok.aim fun Q hQ => ?_
  have hQ' := Hid.mk hQ
  clear hQ
  have h1 := rMay_at (o := x.o) (c := x.c) (q := x.q) (f := x.f) (t := x.t) hx.1
  have h3 := rSameCmd_at (o := x.o) (c := x.c) (q := x.q) (f := x.f) (t := x.t) (o' := 0) (c' := 0) (q' := 0) (f' := 0) (t' := 0) (m := []) (w := .sl .nil 0 0 0) hx.1 ⟨_, _, _, rfl, by decide, trivial, .inl rfl⟩
  obtain ⟨a, cap, z, e1⟩ := hx.1.sl
  obtain ⟨a3, cap3, z3, e3, hc1, hc2, h2⟩ := hx.2
  have h2' := Hid.mk h2
  simp only [e1] at h1 h3
  unfold mayB bodB hdB nonB at hQ'
  simp only [inV,e1,e3]
  clear e1 e3 hx h2
  have hpl : decide (x.pl = []) = decide ((x.pl.length : Int) = 0) := decide_eq_decide.2 ⟨fun h => by rw [h]; rfl, fun h => List.length_eq_zero_iff.1 (by omega)⟩
  rw [hpl] at hQ'
  clear hpl
  have p1 := mayRef_at x.l x.i h
  have p2 := mayBallot_at x.bn x.bd h
  have p3 := mayBallot_at x.vn x.vd h
  have p4 := rLess_at x.bn x.bd x.vn x.vd h
  generalize decide (refP x.l x.i) = r1 at p1 hQ'
  generalize decide (balP x.bn x.bd) = r2 at p2 hQ'
  generalize decide (balP x.vn x.vd) = r3 at p3 hQ'
  generalize decide (lsP x.bn x.bd x.vn x.vd) = r4 at p4 hQ'
  obtain ⟨rs, ers, b1, b0⟩ := truth (stP x)
  rw [ers] at hQ'
  clear ers
  generalize decide (mayP x.o x.c x.q x.f x.t x.dl) = mb at h1 hQ'
  generalize (decide (smC x.o x.c x.q x.f x.t 0 0 0 0 0) && decide (x.dl = [])) = cb at h3 hQ'
  by_cases hst : x.st = 0
  · rw [decide_eq_true hst] at hQ'
    obtain ⟨v0, ev0, v1, v2⟩ := truth (x.vn = 0 /\ x.vd = 0 /\ x.sq = 0)
    rw [ev0] at hQ'
    clear ev0
    generalize x.sm = sm at hQ' ⊢
    (refine Ok.body body12 pin12 ?_; simp only [c12,Tryz.f12,Option.getD_some,nslot12,List.append_nil,List.map,List.replicate,List.length_cons,List.length_nil,Nat.reduceAdd,Nat.reduceSub,List.cons_append,List.nil_append])
    (repeat' (first | (simp -implicitDefEqProofs (maxSteps := 1000000) (disch := first | assumption | omega | (simp only [ZDI]; omega)) only [*,lenV,G12,Za,Zb,Zc,Zd,Ze,Zf,Zg,Zh,Zi,Zj,Zk,Zl,Zm,Zn,Zo,Ja,Jb,Jc,J6,Jd,Je,J7,J8,Jf,Jg,Jh,Ji,Jj,Jk,J9,Jl,Jm,wr,Jn,JA,JB,Jo,Jp,Jq,Jr,Js,Jt,Ju,Jv,Jw,Jx,Jy,Jz,J0,J1,J2,J3,J4,J5,reduceCtorEq,JC,JD,JE,JF,JG,JH,JI,JJ]) | ((with_reducible (first | apply Ok.br | apply Ok.gd | apply Ok.ld)) <;> (intro g; (try simp only [ZGS] at g); try (exfalso; omega)))))
    all_goals (refine hQ'.out _ ?_)
    all_goals (try simp only [Bool.and_eq_true,Bool.and_eq_false_iff,decide_eq_true_eq,decide_eq_false_iff_not] at *)
    all_goals first
      | (simp [*]; done)
      | (rw [b0.out (by unfold stP; omega)]; simp; done)
      | (rw [v2.out (by omega)]; simp; done)
      | (rw [b1.out (by unfold stP; omega), v1.out (by omega)]; simp [*]; done)
  · rw [decide_eq_false hst] at hQ'
    (refine Ok.body body12 pin12 ?_; simp only [c12,Tryz.f12,Option.getD_some,nslot12,List.append_nil,List.map,List.replicate,List.length_cons,List.length_nil,Nat.reduceAdd,Nat.reduceSub,List.cons_append,List.nil_append])
    (repeat' (first | (simp -implicitDefEqProofs (maxSteps := 1000000) (disch := first | assumption | omega | (simp only [ZDI]; omega)) only [*,lenV,G12,Za,Zb,Zc,Zd,Ze,Zf,Zg,Zh,Zi,Zj,Zk,Zl,Zm,Zn,Zo,Ja,Jb,Jc,J6,Jd,Je,J7,J8,Jf,Jg,Jh,Ji,Jj,Jk,J9,Jl,Jm,wr,Jn,JA,JB,Jo,Jp,Jq,Jr,Js,Jt,Ju,Jv,Jw,Jx,Jy,Jz,J0,J1,J2,J3,J4,J5,reduceCtorEq,JC,JD,JE,JF,JG,JH,JI,JJ]) | ((with_reducible (first | apply Ok.br | apply Ok.gd | apply Ok.ld)) <;> (intro g; (try simp only [ZGS] at g); try (exfalso; omega)))))
    all_goals (try (refine hQ'.out _ ?_))
    all_goals try first
      | (simp [*]; done)
      | (rw [b0.out (by unfold stP; omega)]; simp; done)
    have hrs := b1.out (by unfold stP; omega)
    have hfin : ∀ (b : Bool), risB none x.pl = b -> Q (V.bool (b && (mb && decide ((x.pl.length : Int) <= 4096))), h) := fun b hb => by
      refine hQ'.out _ ?_
      simp only [hrs,hb, *]
      cases b <;> cases mb <;> simp
    have hfin' := Hid.mk hfin
    clear hfin hQ' hrs b1 b0 p1 p2 p3 p4 h3
    generalize x.pl = l at hfin' hc1 h2' ⊢
    refine Ok.loop [BF, BF, BT, BT, BT, BF, BF, BF, BF, BF, BF, BF, BF, BF, BF, BF, BF, BF, BF, BF, BF, BF, BF, BF, BF, BF, BF, BF, BF, BF, BF, BF, BF, BF, BF, BF, BF, BF, BF, BF, BF, BF, BF, BF, BF, BF, BF, BF, BF, BF, BF, BF, BF, BF, BF, BF, BF, BF, BF, BF, BF, BF, BF, BF, BF, BF, BF, BF, BF, BF, BF, BF, BF, BF, BF, BF, BF, BF, BF, BF, BT, BT, BT, BT, BT, BT, BT, BT, BT, BT, BT, BT, BT, BT, BT, BT, BT, BT, BT, BT, BT, BT, BT, BT, BF, BF, BF, BF, BF, BF, BF, BF, BF] (fun n s2 => ∃ (i w0 : Nat) (q0 : List V), n = l.length - i /\ i <= l.length /\ tv s2.e 80 = .v (.int .i64 i) /\ s2.l = [(1, [.int .i64 x.l, .int .i64 x.i, .int .i64 x.bn, .int .i64 x.bd, .int .i64 x.vn, .int .i64 x.vd, .int .i64 x.st, .bool x.sm, .int .i64 x.o, .int .i64 x.c, .int .i64 x.q, .int .i64 x.f, .int .i64 x.t, .sl a x.dl.length cap z, .int .i64 x.sq, .sl a3 l.length cap3 z3]), (w0, q0)] /\ s2.h = h /\ risB none l = risB (prv l i) (l.drop i))
      (fun y s2 => s2.h = h /\ (∃ (w0 : Nat) (q0 : List V), s2.l = [(1, [.int .i64 x.l, .int .i64 x.i, .int .i64 x.bn, .int .i64 x.bd, .int .i64 x.vn, .int .i64 x.vd, .int .i64 x.st, .bool x.sm, .int .i64 x.o, .int .i64 x.c, .int .i64 x.q, .int .i64 x.f, .int .i64 x.t, .sl a x.dl.length cap z, .int .i64 x.sq, .sl a3 l.length cap3 z3]), (w0, q0)]) /\ ((y = .exit 0 /\ risB none l = true) \/ (y = .ret /\ risB none l = false /\ tv s2.e 2 = .v (.bool false)))) (l.length - 0) ⟨0, 0, [], rfl, Nat.zero_le _, rfl, rfl, rfl, rfl⟩ ?_ ?_
    · intro n ⟨e', l', H'⟩ hW ⟨i, w0, q0, hm, hi, h9, k2, k3, hno⟩
      dsimp only at hW h9 k2 k3
      subst l' H'
      rw [hW.spread]
      simp only [spread_t,spread_f,spread_n,Nat.zero_add,Nat.reduceAdd,h9]
      clear hW hfin'
      by_cases hlt : i < l.length
      · have hlt' : (i : Int) < (l.length : Int) := by omega
        have g1 : 0 <= (i : Int) /\ (i : Int) < (l.length : Int) := by omega
        rcases h2'.out with rfl | ⟨b, g, o, rw, full, rfl, hb, hfull, ho⟩
        · simp at hlt
        · obtain ⟨⟨y1, y2⟩, hy⟩ : ∃ y, l[i]? = some y := ⟨_, List.getElem?_eq_getElem hlt⟩
          have hf := hfull i _ hy
          rw [risB_step hy] at hno
          dsimp only at hf hno
          have hr1 := mayRef_at y1 y2 h
          generalize decide (refP y1 y2) = rb at hr1 hno
          by_cases h0 : i = 0
          · have hp : prvB (prv l i) (y1, y2) = true := by unfold prv; rw [if_pos h0]; rfl
            rw [hp] at hno
            have g0 : ¬ (0 : Int) < (i : Int) := by omega
            have hno' := Hid.mk hno
            clear hno hy hfull hp h0
            cases rb
            · (repeat' (first | (simp -implicitDefEqProofs (maxSteps := 1000000) (disch := first | assumption | omega | (simp only [ZDI]; omega)) only [*,lenV,G12,Za,Zb,Zc,Zd,Ze,Zf,Zg,Zh,Zi,Zj,Zk,Zl,Zm,Zn,Zo,Ja,Jb,Jc,J6,Jd,Je,J7,J8,Jf,Jg,Jh,Ji,Jj,Jk,J9,Jl,Jm,wr,Jn,JA,JB,Jo,Jp,Jq,Jr,Js,Jt,Ju,Jv,Jw,Jx,Jy,Jz,J0,J1,J2,J3,J4,J5,reduceCtorEq,JC,JD,JE,JF,JG,JH,JI,JJ]) | ((with_reducible (first | apply Ok.br | apply Ok.gd | apply Ok.ld)) <;> (intro g; (try simp only [ZGS] at g); try (exfalso; omega)))))
              exact Turn.ret ⟨rfl, rfl, ⟨_, _, rfl⟩, .inr ⟨rfl, by rw [hno'.out]; rfl, rfl⟩⟩
            · (repeat' (first | (simp -implicitDefEqProofs (maxSteps := 1000000) (disch := first | assumption | omega | (simp only [ZDI]; omega)) only [*,lenV,G12,Za,Zb,Zc,Zd,Ze,Zf,Zg,Zh,Zi,Zj,Zk,Zl,Zm,Zn,Zo,Ja,Jb,Jc,J6,Jd,Je,J7,J8,Jf,Jg,Jh,Ji,Jj,Jk,J9,Jl,Jm,wr,Jn,JA,JB,Jo,Jp,Jq,Jr,Js,Jt,Ju,Jv,Jw,Jx,Jy,Jz,J0,J1,J2,J3,J4,J5,reduceCtorEq,JC,JD,JE,JF,JG,JH,JI,JJ]) | ((with_reducible (first | apply Ok.br | apply Ok.gd | apply Ok.ld)) <;> (intro g; (try simp only [ZGS] at g); try (exfalso; omega)))))
              exact Turn.next (l.length - (i + 1)) (by omega) ⟨rfl, i + 1, _, _, by omega, by omega, rfl, rfl, rfl, by rw [hno'.out]; rfl⟩
          · obtain ⟨⟨x1, x2⟩, hx⟩ : ∃ x, l[i - 1]? = some x := ⟨_, List.getElem?_eq_getElem (by omega)⟩
            have hf2 := hfull (i - 1) _ hx
            dsimp only at hf2
            have hp : prvB (prv l i) (y1, y2) = ltR (x1, x2) (y1, y2) := by unfold prv; rw [if_neg h0, hx]; rfl
            rw [hp] at hno
            have hl1 := less06_at (x1, x2) (y1, y2) h
            dsimp only at hl1
            generalize ltR (x1, x2) (y1, y2) = lb at hl1 hno
            have e1 : (i : Int) - 1 = ((i - 1 : Nat) : Int) := by omega
            have g0 : (0 : Int) < (i : Int) := by omega
            have g2 : 0 <= ((i - 1 : Nat) : Int) /\ ((i - 1 : Nat) : Int) < (l.length : Int) := by omega
            have hno' := Hid.mk hno
            clear hno hy hfull hp hx
            cases rb
            · (repeat' (first | (simp -implicitDefEqProofs (maxSteps := 1000000) (disch := first | assumption | omega | (simp only [ZDI]; omega)) only [*,lenV,G12,Za,Zb,Zc,Zd,Ze,Zf,Zg,Zh,Zi,Zj,Zk,Zl,Zm,Zn,Zo,Ja,Jb,Jc,J6,Jd,Je,J7,J8,Jf,Jg,Jh,Ji,Jj,Jk,J9,Jl,Jm,wr,Jn,JA,JB,Jo,Jp,Jq,Jr,Js,Jt,Ju,Jv,Jw,Jx,Jy,Jz,J0,J1,J2,J3,J4,J5,reduceCtorEq,JC,JD,JE,JF,JG,JH,JI,JJ]) | ((with_reducible (first | apply Ok.br | apply Ok.gd | apply Ok.ld)) <;> (intro g; (try simp only [ZGS] at g); try (exfalso; omega)))))
              exact Turn.ret ⟨rfl, rfl, ⟨_, _, rfl⟩, .inr ⟨rfl, by rw [hno'.out]; rfl, rfl⟩⟩
            · cases lb
              · (repeat' (first | (simp -implicitDefEqProofs (maxSteps := 1000000) (disch := first | assumption | omega | (simp only [ZDI]; omega)) only [*,lenV,G12,Za,Zb,Zc,Zd,Ze,Zf,Zg,Zh,Zi,Zj,Zk,Zl,Zm,Zn,Zo,Ja,Jb,Jc,J6,Jd,Je,J7,J8,Jf,Jg,Jh,Ji,Jj,Jk,J9,Jl,Jm,wr,Jn,JA,JB,Jo,Jp,Jq,Jr,Js,Jt,Ju,Jv,Jw,Jx,Jy,Jz,J0,J1,J2,J3,J4,J5,reduceCtorEq,JC,JD,JE,JF,JG,JH,JI,JJ]) | ((with_reducible (first | apply Ok.br | apply Ok.gd | apply Ok.ld)) <;> (intro g; (try simp only [ZGS] at g); try (exfalso; omega)))))
                exact Turn.ret ⟨rfl, rfl, ⟨_, _, rfl⟩, .inr ⟨rfl, by rw [hno'.out]; rfl, rfl⟩⟩
              · (repeat' (first | (simp -implicitDefEqProofs (maxSteps := 1000000) (disch := first | assumption | omega | (simp only [ZDI]; omega)) only [*,lenV,G12,Za,Zb,Zc,Zd,Ze,Zf,Zg,Zh,Zi,Zj,Zk,Zl,Zm,Zn,Zo,Ja,Jb,Jc,J6,Jd,Je,J7,J8,Jf,Jg,Jh,Ji,Jj,Jk,J9,Jl,Jm,wr,Jn,JA,JB,Jo,Jp,Jq,Jr,Js,Jt,Ju,Jv,Jw,Jx,Jy,Jz,J0,J1,J2,J3,J4,J5,reduceCtorEq,JC,JD,JE,JF,JG,JH,JI,JJ]) | ((with_reducible (first | apply Ok.br | apply Ok.gd | apply Ok.ld)) <;> (intro g; (try simp only [ZGS] at g); try (exfalso; omega)))))
                exact Turn.next (l.length - (i + 1)) (by omega) ⟨rfl, i + 1, _, _, by omega, by omega, rfl, rfl, rfl, by rw [hno'.out]; rfl⟩
      · have hlt' : ¬ (i : Int) < (l.length : Int) := by omega
        rw [risB_end (by omega)] at hno
        have hno' := Hid.mk hno
        clear hno
        (repeat' (first | (simp -implicitDefEqProofs (maxSteps := 1000000) (disch := first | assumption | omega | (simp only [ZDI]; omega)) only [*,lenV,G12,Za,Zb,Zc,Zd,Ze,Zf,Zg,Zh,Zi,Zj,Zk,Zl,Zm,Zn,Zo,Ja,Jb,Jc,J6,Jd,Je,J7,J8,Jf,Jg,Jh,Ji,Jj,Jk,J9,Jl,Jm,wr,Jn,JA,JB,Jo,Jp,Jq,Jr,Js,Jt,Ju,Jv,Jw,Jx,Jy,Jz,J0,J1,J2,J3,J4,J5,reduceCtorEq,JC,JD,JE,JF,JG,JH,JI,JJ]) | ((with_reducible (first | apply Ok.br | apply Ok.gd | apply Ok.ld)) <;> (intro g; (try simp only [ZGS] at g); try (exfalso; omega)))))
        exact Turn.exit ⟨rfl, rfl, ⟨_, _, rfl⟩, .inl ⟨rfl, hno'.out⟩⟩
    · intro y ⟨e', l', H'⟩ hW ⟨k3, ⟨w0, q0, k2⟩, hy⟩
      dsimp only at hW k2 k3 hy
      subst l' H'
      rw [hW.spread]
      clear hW
      rcases hy with ⟨rfl, hm⟩ | ⟨rfl, hm, h4⟩
      · simp only [spread_t,spread_f,spread_n,Nat.zero_add,Nat.reduceAdd]
        have hm' := Hid.mk hm
        clear hm
        cases mb
        · (repeat' (first | (simp -implicitDefEqProofs (maxSteps := 1000000) (disch := first | assumption | omega | (simp only [ZDI]; omega)) only [*,lenV,G12,Za,Zb,Zc,Zd,Ze,Zf,Zg,Zh,Zi,Zj,Zk,Zl,Zm,Zn,Zo,Ja,Jb,Jc,J6,Jd,Je,J7,J8,Jf,Jg,Jh,Ji,Jj,Jk,J9,Jl,Jm,wr,Jn,JA,JB,Jo,Jp,Jq,Jr,Js,Jt,Ju,Jv,Jw,Jx,Jy,Jz,J0,J1,J2,J3,J4,J5,reduceCtorEq,JC,JD,JE,JF,JG,JH,JI,JJ]) | ((with_reducible (first | apply Ok.br | apply Ok.gd | apply Ok.ld)) <;> (intro g; (try simp only [ZGS] at g); try (exfalso; omega)))))
          have := hfin'.out _ hm'.out
          simpa using this
        · (repeat' (first | (simp -implicitDefEqProofs (maxSteps := 1000000) (disch := first | assumption | omega | (simp only [ZDI]; omega)) only [*,lenV,G12,Za,Zb,Zc,Zd,Ze,Zf,Zg,Zh,Zi,Zj,Zk,Zl,Zm,Zn,Zo,Ja,Jb,Jc,J6,Jd,Je,J7,J8,Jf,Jg,Jh,Ji,Jj,Jk,J9,Jl,Jm,wr,Jn,JA,JB,Jo,Jp,Jq,Jr,Js,Jt,Ju,Jv,Jw,Jx,Jy,Jz,J0,J1,J2,J3,J4,J5,reduceCtorEq,JC,JD,JE,JF,JG,JH,JI,JJ]) | ((with_reducible (first | apply Ok.br | apply Ok.gd | apply Ok.ld)) <;> (intro g; (try simp only [ZGS] at g); try (exfalso; omega)))))
          have := hfin'.out _ hm'.out
          simpa using this
      · simp only [spread_t,spread_f,spread_n,Nat.zero_add,Nat.reduceAdd,h4]
        have hm' := Hid.mk hm
        clear hm
        (repeat' (first | (simp -implicitDefEqProofs (maxSteps := 1000000) (disch := first | assumption | omega | (simp only [ZDI]; omega)) only [*,lenV,G12,Za,Zb,Zc,Zd,Ze,Zf,Zg,Zh,Zi,Zj,Zk,Zl,Zm,Zn,Zo,Ja,Jb,Jc,J6,Jd,Je,J7,J8,Jf,Jg,Jh,Ji,Jj,Jk,J9,Jl,Jm,wr,Jn,JA,JB,Jo,Jp,Jq,Jr,Js,Jt,Ju,Jv,Jw,Jx,Jy,Jz,J0,J1,J2,J3,J4,J5,reduceCtorEq,JC,JD,JE,JF,JG,JH,JI,JJ]) | ((with_reducible (first | apply Ok.br | apply Ok.gd | apply Ok.ld)) <;> (intro g; (try simp only [ZGS] at g); try (exfalso; omega)))))
        have := hfin'.out _ hm'.out
        simpa using this
end Go.Ev
set_option maxRecDepth 100000
namespace Go.Ev
open Go.Proofs
theorem InAt.keep {h h' : Heap} {x : In} (hs : InAt h x) (k : KeepC h h') : InAt h' x := ⟨hs.1.keep k, hs.2.keep k⟩
end Go.Ev
set_option maxRecDepth 100000
namespace Go.Ev
open Go.Proofs
def In.key (x : In) : RP := (x.l, x.i)
def In.core (x : In) : In := { x with dv := .nilp, pv := .nilp }
theorem KeepC.setMap {h : Heap} {m : Nat} {ex ex' : Bool} {es es' : List ME} {c c' : Nat} (hm : h[m]? = some (.map ex es c)) : KeepC h (h.set m (.map ex' es' c')) := by
  refine ⟨by simp, fun b g p e => ?_⟩
  have hne : m ≠ b := by
    rintro rfl
    unfold hcells at e
    rw [hm] at e; cases e
  rw [hcells_set_ne (Ne.symm hne)]
  exact e
structure TabAt (h : Heap) (b m : Nat) (L : List In) : Prop where
  cell : hcells h b 0 = some (true, [.map m])
  map : ∃ ex es c, h[m]? = some (.map ex es c) /\ es.map unborn = L.map fun x => (elt x.key, V.agg (inV x))
  at_ : ∀ x ∈ L, InAt h x /\ x.dl.length <= 5000 /\ x.pl.length <= 5000
  keys : (L.map In.key).Nodup
theorem TabAt.keysM {h : Heap} {L : List In} {es : List ME} (he : es.map unborn = L.map fun x => (elt x.key, V.agg (inV x))) : keysM es = some (L.map In.key) := by
  refine keysM_of ?_
  have := congrArg (List.map Prod.fst) he
  rw [List.map_map, List.map_map] at this
  rw [List.map_map]
  exact this
theorem TabAt.len {L : List In} {es : List ME} (he : es.map unborn = L.map fun x => (elt x.key, V.agg (inV x))) : es.length = L.length := by
  have := congrArg List.length he
  simpa using this
theorem TabAt.keep {h h' : Heap} {b m : Nat} {L : List In} (ht : TabAt h b m L) (k : KeepC h h') (hm : h'[m]? = h[m]?) : TabAt h' b m L := by
  obtain ⟨h1, ⟨ex, es, c, h2, h3⟩, h4, h5⟩ := ht
  exact ⟨k.2 _ _ _ h1, ⟨ex, es, c, by rw [hm]; exact h2, h3⟩, fun x hx => ⟨(h4 x hx).1.keep k, (h4 x hx).2⟩, h5⟩
theorem ownSl_strs {h : Heap} {v : V} {l : List ByteArray} (hs : StrsAt h v l) (hl : l.length <= 5000) (nx : Nat) : ∃ v' bl, ownSl h nx 1 v = some (v', bl) /\ ∀ h', KeepC h h' -> h.length <= nx -> (∀ k, k < bl.length -> h'[nx + k]? = bl[k]?) -> StrsAt h' v' l := by
  obtain ⟨a, cap, z, rfl, h1, _, h2⟩ := hs
  rcases h2 with rfl | ⟨b, g, o, rw, full, rfl, hc, hf⟩
  · cases a with
    | nil => exact ⟨_, _, rfl, fun h' _ _ _ => ⟨_, _, _, rfl, by decide, trivial, .inl rfl⟩⟩
    | any => exact ⟨_, _, rfl, fun h' _ _ _ => ⟨_, _, _, rfl, by decide, trivial, .inl rfl⟩⟩
    | «at» b g o => exact ⟨_, _, rfl, fun h' _ _ _ => ⟨_, _, _, rfl, by decide, trivial, .inl rfl⟩⟩
  · by_cases h0 : l.length = 0
    · obtain rfl : l = [] := List.length_eq_zero_iff.1 h0
      exact ⟨_, _, rfl, fun h' _ _ _ => ⟨_, _, _, rfl, by decide, trivial, .inl rfl⟩⟩
    · have hlen : o + l.length * 1 <= full.length := by
        have := hf (l.length - 1) _ (List.getElem?_eq_getElem (by omega))
        have := (List.getElem?_eq_some_iff.1 this).1
        omega
      refine ⟨_, _, ownSl_at (by omega) hl hc hlen, fun h' k hn hb => ⟨_, _, _, rfl, h1, trivial, .inr ⟨nx + 1, 0, 0, true, (full.drop o).take (l.length * 1), rfl, ?_, fun i s hi => ?_⟩⟩⟩
      · have := hb 1 (by simp)
        unfold hcells
        rw [this]
        exact grd_t rfl _
      · have hi2 := (List.getElem?_eq_some_iff.1 hi).1
        rw [Nat.zero_add, List.getElem?_take, if_pos (by omega), List.getElem?_drop]
        exact hf i s hi
theorem ownSl_row {h : Heap} {v : V} {l : List RP} (hs : RowAt h v l) (hl : l.length <= 5000) (nx : Nat) : ∃ v' bl, ownSl h nx 2 v = some (v', bl) /\ ∀ h', KeepC h h' -> h.length <= nx -> (∀ k, k < bl.length -> h'[nx + k]? = bl[k]?) -> RowAt h' v' l := by
  obtain ⟨a, cap, z, rfl, h1, h1', h2⟩ := hs
  rcases h2 with rfl | ⟨b, g, o, rw, full, rfl, hc, hf, ho⟩
  · cases a with
    | nil => exact ⟨_, _, rfl, fun h' _ _ _ => ⟨_, _, _, rfl, by decide, by decide, .inl rfl⟩⟩
    | any => exact ⟨_, _, rfl, fun h' _ _ _ => ⟨_, _, _, rfl, by decide, by decide, .inl rfl⟩⟩
    | «at» b g o => exact ⟨_, _, rfl, fun h' _ _ _ => ⟨_, _, _, rfl, by decide, by decide, .inl rfl⟩⟩
  · by_cases h0 : l.length = 0
    · obtain rfl : l = [] := List.length_eq_zero_iff.1 h0
      exact ⟨_, _, rfl, fun h' _ _ _ => ⟨_, _, _, rfl, by decide, by decide, .inl rfl⟩⟩
    · refine ⟨_, _, ownSl_at (by omega) hl hc ho, fun h' k hn hb => ⟨_, _, _, rfl, Nat.le_refl _, by omega, .inr ⟨nx + 1, 0, 0, true, (full.drop o).take (l.length * 2), rfl, ?_, fun i s hi => ?_, ?_⟩⟩⟩
      · have := hb 1 (by simp)
        unfold hcells
        rw [this]
        exact grd_t rfl _
      · have hi2 := (List.getElem?_eq_some_iff.1 hi).1
        rw [Nat.zero_add, List.drop_take, List.take_take, List.drop_drop, Nat.min_eq_left (by omega)]
        exact hf i s hi
      · rw [List.length_take, List.length_drop]; omega
theorem own_in {h : Heap} {x : In} (hx : InAt h x) (h1 : x.dl.length <= 5000) (h2 : x.pl.length <= 5000) (nx : Nat) : ∃ (x' : In) (bl : List Blk), ownG h nx (.agg (inV x)) = some (.agg (inV x'), bl) /\ x'.core = x.core /\
    ∀ h', KeepC h h' -> h.length <= nx -> (∀ k, k < bl.length -> h'[nx + k]? = bl[k]?) -> InAt h' x' := by
  obtain ⟨dv', bd, e1, k1⟩ := ownSl_strs hx.1 h1 nx
  obtain ⟨pv', bp, e2, k2⟩ := ownSl_row hx.2 h2 (nx + bd.length)
  refine ⟨{ x with dv := dv', pv := pv' }, bd ++ bp, ownG_mk rfl rfl rfl e1 e2, rfl, fun h' k hn hb => ⟨k1 h' k hn fun j hj => ?_, k2 h' k (by omega) fun j hj => ?_⟩⟩
  · rw [hb j (by rw [List.length_append]; omega), List.getElem?_append_left hj]
  · rw [Nat.add_assoc, hb (bd.length + j) (by rw [List.length_append]; omega), List.getElem?_append_right (by omega)]
    congr 1; omega
theorem owns_in {h : Heap} : ∀ (L : List In) (es : List ME) (nx : Nat), es.map unborn = (L.map fun x => (elt x.key, V.agg (inV x))) -> (∀ x ∈ L, InAt h x /\ x.dl.length <= 5000 /\ x.pl.length <= 5000) -> h.length <= nx ->
    ∃ (L' : List In) (ec : List ME) (bc : List Blk), ownsG h nx es = some (ec, bc) /\ ec.map unborn = (L'.map fun x => (elt x.key, V.agg (inV x))) /\ L'.map In.core = L.map In.core /\
      ∀ h', KeepC h h' -> (∀ k, k < bc.length -> h'[nx + k]? = bc[k]?) -> ∀ x ∈ L', InAt h' x /\ x.dl.length <= 5000 /\ x.pl.length <= 5000
  | [], es, nx, he, _, _ => by
    have : es = [] := by simpa using he
    subst this
    exact ⟨[], [], [], rfl, rfl, rfl, fun h' _ _ x hx => by cases hx⟩
  | x :: L, es, nx, he, hx, hn => by
    cases es with
    | nil => simp at he
    | cons e es =>
      simp only [List.map_cons,List.cons.injEq] at he
      obtain ⟨hx1, hx2, hx3⟩ := hx x (by simp)
      obtain ⟨x', bl, h1, h2, h3⟩ := own_in hx1 hx2 hx3 nx
      obtain ⟨L', ec, bc, h4, h5, h6, h7⟩ := owns_in L es (nx + bl.length) he.2 (fun y hy => hx y (by simp [hy])) (by omega)
      have he1 : e.1 = elt x.key /\ e.2.1 = .agg (inV x) := by
        have := he.1
        simp only [unborn,Prod.mk.injEq] at this
        exact this
      have hkey : x'.key = x.key := by
        have := congrArg In.key h2
        exact this
      refine ⟨x' :: L', (e.1, .agg (inV x'), 0) :: ec, bl ++ bc, ?_, ?_, by rw [List.map_cons, List.map_cons, h2, h6], fun h' k hb y hy => ?_⟩
      · unfold ownsG
        rw [he1.2, h1]
        show bnd (ownsG h (nx + bl.length) es) _ = _
        rw [h4]; rfl
      · rw [List.map_cons, List.map_cons, h5, hkey]
        congr 1
        show (e.1, V.agg (inV x')) = _
        rw [he1.1]
      · rcases List.mem_cons.1 hy with rfl | hy
        · have hl1 : y.dl = x.dl := by have := congrArg In.dl h2; exact this
          have hl2 : y.pl = x.pl := by have := congrArg In.pl h2; exact this
          refine ⟨h3 h' k hn fun j hj => ?_, by rw [hl1]; exact hx2, by rw [hl2]; exact hx3⟩
          rw [hb j (by rw [List.length_append]; omega), List.getElem?_append_left hj]
        · refine h7 h' k (fun j hj => ?_) y hy
          rw [Nat.add_assoc, hb (bl.length + j) (by rw [List.length_append]; omega), List.getElem?_append_right (by omega)]
          congr 1; omega
theorem TabAt.mapAt {h : Heap} {b m : Nat} {L : List In} (ht : TabAt h b m L) : ∃ es, mapAtV h b 0 0 = some (m, es) /\ es.map unborn = (L.map fun x => (elt x.key, V.agg (inV x))) := by
  obtain ⟨h1, ⟨ex, es, c, h2, h3⟩, _, _⟩ := ht
  refine ⟨es, ?_, h3⟩
  unfold mapAtV
  rw [h1]
  simp only [bnd,List.getElem?_cons_zero,h2]
theorem clone_at {h : Heap} {b m : Nat} {L : List In} (ht : TabAt h b m L) : ∃ (l : List Blk) (L' : List In), D X (.fn 104 []) [.ptr b 0 0] h = some (.ptr (h.length + 1) 0 0, h ++ l) /\ TabAt (h ++ l) (h.length + 1) h.length L' /\ L'.map In.core = L.map In.core := by
  obtain ⟨es, h1, h2⟩ := ht.mapAt
  obtain ⟨L', ec, bc, h3, h4, h5, h6⟩ := owns_in (h := h) L es (h.length + 2) h2 ht.at_ (by omega)
  have hr : cloneG [.ptr b 0 0] h = some (.ptr (h.length + 1) 0 0, h ++ .map false ec ec.length :: .cells 0 true [.map h.length] :: bc) := by
    simp only [cloneG,h1,bnd,TabAt.keysM (h := h) h2,h3]
  refine ⟨.map false ec ec.length :: .cells 0 true [.map h.length] :: bc, L', D_sum (g := cloneG) pin104 hr, ⟨?_, ⟨false, ec, ec.length, ?_, h4⟩, h6 _ (KeepC.app _ _) (fun k hk => ?_), ?_⟩, h5⟩
  · rw [hcells_ge (by omega), Nat.add_sub_cancel_left]; rfl
  · rw [List.getElem?_append_right (Nat.le_refl _), Nat.sub_self]; rfl
  · rw [List.getElem?_append_right (by omega), show h.length + 2 + k - h.length = k + 1 + 1 by omega]; rfl
  · have : L'.map In.key = L.map In.key := by
      have := congrArg (List.map In.key) h5
      rw [List.map_map, List.map_map] at this
      exact this
    rw [this]; exact ht.keys
theorem clone_nil (h : Heap) : D X (.fn 104 []) [.nilp] h = some (.nilp, h) := D_sum (g := cloneG) pin104 rfl
theorem refs_nil (h : Heap) : D X (.fn 91 []) [.nilp] h = some (.sl .nil 0 0 0, h) := D_sum (g := refsG) pin91 rfl
theorem addsR_nodup_len {l : List RP} (h : l.Nodup) : (addsR [] l).length = l.length := by
  have h1 : (addsR [] l).Nodup := (addsR_strict l [] List.Pairwise.nil).imp fun {a b} hab e => by rw [e, ltR_swo.irrefl] at hab; cases hab
  have m : ∀ x, x ∈ addsR [] l ↔ x ∈ l := fun x => by rw [addsR_mem]; simp
  have a := nodup_le h1 fun x hx => (m x).1 hx
  have b := nodup_le h fun x hx => (m x).2 hx
  omega
theorem refs_at {h : Heap} {b m : Nat} {L : List In} (ht : TabAt h b m L) (hl : L.length <= 5000) : ∃ (v : V) (l : List Blk), D X (.fn 91 []) [.ptr b 0 0] h = some (v, h ++ l) /\ RowAt (h ++ l) v (addsR [] (L.map In.key)) := by
  obtain ⟨es, h1, h2⟩ := ht.mapAt
  have hk := TabAt.keysM (h := h) h2
  have hlen := addsR_nodup_len ht.keys
  by_cases h0 : L.map In.key = []
  · refine ⟨.sl .nil 0 0 0, [], D_sum (g := refsG) pin91 ?_, ?_⟩
    · simp only [refsG,h1,bnd,hk,h0,List.append_nil]
      rfl
    · rw [h0]
      exact ⟨_, _, _, rfl, Nat.le_refl _, by decide, .inl rfl⟩
  · refine ⟨.sl (.at h.length 0 0) (L.map In.key).length (L.map In.key).length 2, [.cells 0 true (flL (addsR [] (L.map In.key)))], D_sum (g := refsG) pin91 ?_, ?_⟩
    · simp only [refsG,h1,bnd,hk]
      have hl2 : (L.map In.key).length <= 5000 := by simpa using hl
      rw [grd_t hl2]
    · have := row_head (g := h ++ [.cells 0 true (flL (addsR [] (L.map In.key)))]) (b := h.length) (q := 0) (cap := (L.map In.key).length) (z := 2) (p := addsR [] (L.map In.key)) (rest := []) (rw := true) (by rw [List.append_nil]; exact hcells_new) (by omega) (by simp; omega)
      rw [hlen] at this
      exact this
end Go.Ev
set_option maxRecDepth 100000
namespace Go.Ev
open Go.Ev renaming exPure -> Ja, ofValue -> Jb, cellsV -> Jc, load -> Jd, store -> Je, binOp -> Jf, intOp -> Jg, rdV -> Jh, vsame -> Ji, vsames -> Jj, makeSliceV -> Jk, resV -> Jl, isCell -> Jm, nilCheckV -> Jn, allV -> Jo, builtinV -> Jp, lenV -> Jq, indexAddrV -> Jr, unOp -> Js, minmaxV -> Jt, minmax -> Ju, sliceV -> Jv, asInt -> Jw, appendV -> Jx, forkB -> Jy, roY -> Jz, rwB -> J0, copyV -> J1, clearV -> J2, convV -> J3, sliceCells -> J4, shift -> J5
open Bool renaming true -> BT, false -> BF
open Nat renaming reduceEqDiff -> J6, reduceLT -> J7, reduceAdd -> J8, reduceBEq -> J9, reduceSub -> JA, reduceMul -> JB, reduceLeDiff -> JJ
open Int renaming reduceLT -> JC, reduceLE -> JD, reduceAdd -> JE, reduceSub -> JF, reduceNeg -> JG, reduceToNat -> JH, reduceEq -> JI
open Go.Proofs
theorem cloneS_at {h : Heap} {d d' : V} {bl : List Blk} (hr : ownSl h h.length 1 d = some (d', bl)) : D X (.fn 105 []) [d] h = some (d', h ++ bl) := by
  refine Ok.eq ?_
  rcases ownSl_cases hr with ⟨n, c, y, rfl, rfl, rfl⟩ | ⟨a, c, y, rfl, ha, rfl, rfl⟩ | ⟨b, g, o, n, c, y, rw, full, rfl, h0, h1, hc, hf, rfl, rfl⟩
  · (refine Ok.body body105 pin105 ?_; simp only [c105,Tryz.f105,Option.getD_some,nslot105,List.append_nil,List.map,List.replicate,List.length_cons,List.length_nil,Nat.reduceAdd,Nat.reduceSub,List.cons_append,List.nil_append])
    (repeat' (first | (simp -implicitDefEqProofs (maxSteps := 1000000) (disch := first | assumption | omega | (simp only [ZDI]; omega)) only [*,List.append_nil,G105,Za,Zb,Zc,Zd,Ze,Zf,Zg,Zh,Zi,Zj,Zk,Zl,Zm,Zn,Zo,Ja,Jb,Jc,J6,Jd,Je,J7,J8,Jf,Jg,Jh,Ji,Jj,Jk,J9,Jl,Jm,wr,Jn,JA,JB,Jo,Jp,Jq,Jr,Js,Jt,Ju,Jv,Jw,Jx,Jy,Jz,J0,J1,J2,J3,J4,J5,reduceCtorEq,JC,JD,JE,JF,JG,JH,JI,JJ]) | ((with_reducible (first | apply Ok.br | apply Ok.gd | apply Ok.ld)) <;> (intro g; (try simp only [ZGS] at g); try (exfalso; omega)))))
  · cases a with
    | nil => exact absurd rfl ha
    | any =>
      (refine Ok.body body105 pin105 ?_; simp only [c105,Tryz.f105,Option.getD_some,nslot105,List.append_nil,List.map,List.replicate,List.length_cons,List.length_nil,Nat.reduceAdd,Nat.reduceSub,List.cons_append,List.nil_append])
      (repeat' (first | (simp -implicitDefEqProofs (maxSteps := 1000000) (disch := first | assumption | omega | (simp only [ZDI]; omega)) only [*,appendV,sliceCells,G105,Za,Zb,Zc,Zd,Ze,Zf,Zg,Zh,Zi,Zj,Zk,Zl,Zm,Zn,Zo,Ja,Jb,Jc,J6,Jd,Je,J7,J8,Jf,Jg,Jh,Ji,Jj,Jk,J9,Jl,Jm,wr,Jn,JA,JB,Jo,Jp,Jq,Jr,Js,Jt,Ju,Jv,Jw,Jx,Jy,Jz,J0,J1,J2,J3,J4,J5,reduceCtorEq,JC,JD,JE,JF,JG,JH,JI,JJ]) | ((with_reducible (first | apply Ok.br | apply Ok.gd | apply Ok.ld)) <;> (intro g; (try simp only [ZGS] at g); try (exfalso; omega)))))
    | «at» b g o =>
      (refine Ok.body body105 pin105 ?_; simp only [c105,Tryz.f105,Option.getD_some,nslot105,List.append_nil,List.map,List.replicate,List.length_cons,List.length_nil,Nat.reduceAdd,Nat.reduceSub,List.cons_append,List.nil_append])
      (repeat' (first | (simp -implicitDefEqProofs (maxSteps := 1000000) (disch := first | assumption | omega | (simp only [ZDI]; omega)) only [*,appendV,sliceCells,G105,Za,Zb,Zc,Zd,Ze,Zf,Zg,Zh,Zi,Zj,Zk,Zl,Zm,Zn,Zo,Ja,Jb,Jc,J6,Jd,Je,J7,J8,Jf,Jg,Jh,Ji,Jj,Jk,J9,Jl,Jm,wr,Jn,JA,JB,Jo,Jp,Jq,Jr,Js,Jt,Ju,Jv,Jw,Jx,Jy,Jz,J0,J1,J2,J3,J4,J5,reduceCtorEq,JC,JD,JE,JF,JG,JH,JI,JJ]) | ((with_reducible (first | apply Ok.br | apply Ok.gd | apply Ok.ld)) <;> (intro g; (try simp only [ZGS] at g); try (exfalso; omega)))))
  · have hb := hcells_lt hc
    have hn0 : ¬ n = 0 := by omega
    have hg : n * 16 <= 35184372088832 /\ n <= 35184372088832 := by omega
    have hg1 : ¬ n <= 0 := by omega
    (refine Ok.body body105 pin105 ?_; simp only [c105,Tryz.f105,Option.getD_some,nslot105,List.append_nil,List.map,List.replicate,List.length_cons,List.length_nil,Nat.reduceAdd,Nat.reduceSub,List.cons_append,List.nil_append])
    (repeat' (first | (simp -implicitDefEqProofs (maxSteps := 1000000) (disch := first | assumption | omega | (simp only [ZDI]; omega)) only [*,appendV,sliceCells,newBlk,List.append_assoc,Nat.zero_add,Nat.mul_one,G105,Za,Zb,Zc,Zd,Ze,Zf,Zg,Zh,Zi,Zj,Zk,Zl,Zm,Zn,Zo,Ja,Jb,Jc,J6,Jd,Je,J7,J8,Jf,Jg,Jh,Ji,Jj,Jk,J9,Jl,Jm,wr,Jn,JA,JB,Jo,Jp,Jq,Jr,Js,Jt,Ju,Jv,Jw,Jx,Jy,Jz,J0,J1,J2,J3,J4,J5,reduceCtorEq,JC,JD,JE,JF,JG,JH,JI,JJ]) | ((with_reducible (first | apply Ok.br | apply Ok.gd | apply Ok.ld)) <;> (intro g; (try simp only [ZGS] at g); try (exfalso; omega)))))
theorem cloneR_at {h : Heap} {d d' : V} {bl : List Blk} (hr : ownSl h h.length 2 d = some (d', bl)) : D X (.fn 106 []) [d] h = some (d', h ++ bl) := by
  refine Ok.eq ?_
  rcases ownSl_cases hr with ⟨n, c, y, rfl, rfl, rfl⟩ | ⟨a, c, y, rfl, ha, rfl, rfl⟩ | ⟨b, g, o, n, c, y, rw, full, rfl, h0, h1, hc, hf, rfl, rfl⟩
  · (refine Ok.body body106 pin106 ?_; simp only [c106,Tryz.f106,Option.getD_some,nslot106,List.append_nil,List.map,List.replicate,List.length_cons,List.length_nil,Nat.reduceAdd,Nat.reduceSub,List.cons_append,List.nil_append])
    (repeat' (first | (simp -implicitDefEqProofs (maxSteps := 1000000) (disch := first | assumption | omega | (simp only [ZDI]; omega)) only [*,List.append_nil,G106,Za,Zb,Zc,Zd,Ze,Zf,Zg,Zh,Zi,Zj,Zk,Zl,Zm,Zn,Zo,Ja,Jb,Jc,J6,Jd,Je,J7,J8,Jf,Jg,Jh,Ji,Jj,Jk,J9,Jl,Jm,wr,Jn,JA,JB,Jo,Jp,Jq,Jr,Js,Jt,Ju,Jv,Jw,Jx,Jy,Jz,J0,J1,J2,J3,J4,J5,reduceCtorEq,JC,JD,JE,JF,JG,JH,JI,JJ]) | ((with_reducible (first | apply Ok.br | apply Ok.gd | apply Ok.ld)) <;> (intro g; (try simp only [ZGS] at g); try (exfalso; omega)))))
  · cases a with
    | nil => exact absurd rfl ha
    | any =>
      (refine Ok.body body106 pin106 ?_; simp only [c106,Tryz.f106,Option.getD_some,nslot106,List.append_nil,List.map,List.replicate,List.length_cons,List.length_nil,Nat.reduceAdd,Nat.reduceSub,List.cons_append,List.nil_append])
      (repeat' (first | (simp -implicitDefEqProofs (maxSteps := 1000000) (disch := first | assumption | omega | (simp only [ZDI]; omega)) only [*,appendV,sliceCells,G106,Za,Zb,Zc,Zd,Ze,Zf,Zg,Zh,Zi,Zj,Zk,Zl,Zm,Zn,Zo,Ja,Jb,Jc,J6,Jd,Je,J7,J8,Jf,Jg,Jh,Ji,Jj,Jk,J9,Jl,Jm,wr,Jn,JA,JB,Jo,Jp,Jq,Jr,Js,Jt,Ju,Jv,Jw,Jx,Jy,Jz,J0,J1,J2,J3,J4,J5,reduceCtorEq,JC,JD,JE,JF,JG,JH,JI,JJ]) | ((with_reducible (first | apply Ok.br | apply Ok.gd | apply Ok.ld)) <;> (intro g; (try simp only [ZGS] at g); try (exfalso; omega)))))
    | «at» b g o =>
      (refine Ok.body body106 pin106 ?_; simp only [c106,Tryz.f106,Option.getD_some,nslot106,List.append_nil,List.map,List.replicate,List.length_cons,List.length_nil,Nat.reduceAdd,Nat.reduceSub,List.cons_append,List.nil_append])
      (repeat' (first | (simp -implicitDefEqProofs (maxSteps := 1000000) (disch := first | assumption | omega | (simp only [ZDI]; omega)) only [*,appendV,sliceCells,G106,Za,Zb,Zc,Zd,Ze,Zf,Zg,Zh,Zi,Zj,Zk,Zl,Zm,Zn,Zo,Ja,Jb,Jc,J6,Jd,Je,J7,J8,Jf,Jg,Jh,Ji,Jj,Jk,J9,Jl,Jm,wr,Jn,JA,JB,Jo,Jp,Jq,Jr,Js,Jt,Ju,Jv,Jw,Jx,Jy,Jz,J0,J1,J2,J3,J4,J5,reduceCtorEq,JC,JD,JE,JF,JG,JH,JI,JJ]) | ((with_reducible (first | apply Ok.br | apply Ok.gd | apply Ok.ld)) <;> (intro g; (try simp only [ZGS] at g); try (exfalso; omega)))))
  · have hb := hcells_lt hc
    have hn0 : ¬ n = 0 := by omega
    have hg : n * 16 <= 35184372088832 /\ n <= 35184372088832 := by omega
    have hg1 : ¬ n <= 0 := by omega
    (refine Ok.body body106 pin106 ?_; simp only [c106,Tryz.f106,Option.getD_some,nslot106,List.append_nil,List.map,List.replicate,List.length_cons,List.length_nil,Nat.reduceAdd,Nat.reduceSub,List.cons_append,List.nil_append])
    (repeat' (first | (simp -implicitDefEqProofs (maxSteps := 1000000) (disch := first | assumption | omega | (simp only [ZDI]; omega)) only [*,appendV,sliceCells,newBlk,List.append_assoc,Nat.zero_add,Nat.mul_one,G106,Za,Zb,Zc,Zd,Ze,Zf,Zg,Zh,Zi,Zj,Zk,Zl,Zm,Zn,Zo,Ja,Jb,Jc,J6,Jd,Je,J7,J8,Jf,Jg,Jh,Ji,Jj,Jk,J9,Jl,Jm,wr,Jn,JA,JB,Jo,Jp,Jq,Jr,Js,Jt,Ju,Jv,Jw,Jx,Jy,Jz,J0,J1,J2,J3,J4,J5,reduceCtorEq,JC,JD,JE,JF,JG,JH,JI,JJ]) | ((with_reducible (first | apply Ok.br | apply Ok.gd | apply Ok.ld)) <;> (intro g; (try simp only [ZGS] at g); try (exfalso; omega)))))
theorem own_at {h : Heap} {c0 c1 c2 c3 c4 c5 c6 c7 c8 c9 c10 c11 c12 c13 c14 c15 v' : V} {bl : List Blk} (hr : ownG h h.length (.agg [c0, c1, c2, c3, c4, c5, c6, c7, c8, c9, c10, c11, c12, c13, c14, c15]) = some (v', bl)) : D X (.fn 71 []) [.agg [c0, c1, c2, c3, c4, c5, c6, c7, c8, c9, c10, c11, c12, c13, c14, c15]] h = some (v', h ++ bl) := by
  refine Ok.eq ?_
  obtain ⟨cs, d, p, d', p', bd, bp, he, _, h1, h2, h3, h4, rfl, rfl⟩ := ownG_cases hr
  cases he
  cases h1
  cases h2
  have g1 := cloneS_at h3
  have hl : (h ++ bd).length = h.length + bd.length := List.length_append
  have h5 : ownSl (h ++ bd) (h ++ bd).length 2 c15 = some (p', bp) := by
    rw [hl]
    exact ownSl_ext h4 fun b g p hp => by rw [hcells_app (hcells_lt hp)]; exact hp
  have g2 := cloneR_at h5
  obtain ⟨sa, sn, sc, sz, hd'⟩ : ∃ a n c z, d' = .sl a n c z := by
    rcases ownSl_cases h3 with ⟨n, c, y, _, rfl, _⟩ | ⟨a, c, y, _, _, rfl, _⟩ | ⟨b, g, o, n, c, y, rw, full, _, _, _, _, _, rfl, _⟩ <;> exact ⟨_, _, _, _, rfl⟩
  obtain ⟨ra, rn, rc, rz, hp'⟩ : ∃ a n c z, p' = .sl a n c z := by
    rcases ownSl_cases h4 with ⟨n, c, y, _, rfl, _⟩ | ⟨a, c, y, _, _, rfl, _⟩ | ⟨b, g, o, n, c, y, rw, full, _, _, _, _, _, rfl, _⟩ <;> exact ⟨_, _, _, _, rfl⟩
  subst hd' hp'
  clear h3 h4 h5 hr hl
  (refine Ok.body body71 pin71 ?_; simp only [c71,Tryz.f71,Option.getD_some,nslot71,List.append_nil,List.map,List.replicate,List.length_cons,List.length_nil,Nat.reduceAdd,Nat.reduceSub,List.cons_append,List.nil_append])
  (repeat' (first | (simp -implicitDefEqProofs (maxSteps := 1000000) (disch := first | assumption | omega | (simp only [ZDI]; omega)) only [*,List.append_assoc,G71,Za,Zb,Zc,Zd,Ze,Zf,Zg,Zh,Zi,Zj,Zk,Zl,Zm,Zn,Zo,Ja,Jb,Jc,J6,Jd,Je,J7,J8,Jf,Jg,Jh,Ji,Jj,Jk,J9,Jl,Jm,wr,Jn,JA,JB,Jo,Jp,Jq,Jr,Js,Jt,Ju,Jv,Jw,Jx,Jy,Jz,J0,J1,J2,J3,J4,J5,reduceCtorEq,JC,JD,JE,JF,JG,JH,JI,JJ]) | ((with_reducible (first | apply Ok.br | apply Ok.gd | apply Ok.ld)) <;> (intro g; (try simp only [ZGS] at g); try (exfalso; omega)))))
theorem newT_at (h : Heap) : D X (.fn 41 []) [] h = some (.ptr (h.length + 1) 0 0, h ++ [.map true [] 0, .cells 0 true [.map h.length]]) := by
  refine Ok.eq ?_
  (refine Ok.body body41 pin41 ?_; simp only [c41,Tryz.f41,Option.getD_some,nslot41,List.append_nil,List.map,List.replicate,List.length_cons,List.length_nil,Nat.reduceAdd,Nat.reduceSub,List.cons_append,List.nil_append])
  (repeat' (first | (simp -implicitDefEqProofs (maxSteps := 1000000) (disch := first | assumption | omega | (simp only [ZDI]; omega)) only [*,exOp_makeMap,makeMapV,List.append_assoc,G41,Za,Zb,Zc,Zd,Ze,Zf,Zg,Zh,Zi,Zj,Zk,Zl,Zm,Zn,Zo,Ja,Jb,Jc,J6,Jd,Je,J7,J8,Jf,Jg,Jh,Ji,Jj,Jk,J9,Jl,Jm,wr,Jn,JA,JB,Jo,Jp,Jq,Jr,Js,Jt,Ju,Jv,Jw,Jx,Jy,Jz,J0,J1,J2,J3,J4,J5,reduceCtorEq,JC,JD,JE,JF,JG,JH,JI,JJ]) | ((with_reducible (first | apply Ok.br | apply Ok.gd | apply Ok.ld)) <;> (intro g; (try simp only [ZGS] at g); try (exfalso; omega)))))
theorem veq_ref (x y : RP) : veq X.ty 6 24 (elt x) (elt y) = some (decide (x = y)) := by
  obtain ⟨a, b⟩ := x
  obtain ⟨c, d⟩ := y
  have h : veq X.ty 6 24 (elt (a, b)) (elt (c, d)) = bnd (some (decide (a = c))) fun r => cnd r (bnd (some (decide (b = d))) fun r => cnd r (some true) (some false)) (some false) := by
    simp only [veq_eq,elt,ty24,veqM_struct,veqF_cons,veqF_nil,rd,ty3,TI.kind,bnd_s,cnd_f,List.getElem?_cons_zero,List.getElem?_cons_succ,partK_eq,veqM_int,grd_t]
  rw [h]
  by_cases h1 : a = c <;> by_cases h2 : b = d <;> simp [h1, h2, bnd, cnd]
theorem keyTD_ref : keyTD X.ty 3 24 = true := by kernel_rfl
theorem keyOk_ref (x : RP) {es : List ME} {ks : List RP} (h : keysM es = some ks) : keyOk X.ty 24 (elt x) es = true := by
  unfold keyOk
  rw [keyTD_ref, veq_ref]
  simp only [decide_true,Bool.and_true,Bool.and_eq_true,List.all_eq_true,decide_eq_true_eq]
  refine ⟨rfl, fun e he => ?_⟩
  obtain ⟨y, hy⟩ := keysM_get h e he
  rw [keyP_elt hy, veq_ref, vsame_elt]
end Go.Ev
set_option maxRecDepth 100000
namespace Go.Ev
open Go.Proofs
def putL (L : List In) (x : In) : List In := if x.key ∈ L.map In.key then L.map (fun y => if y.key = x.key then x else y) else L ++ [x]
def mE (x : In) : V × V := (elt x.key, .agg (inV x))
theorem findM_tab {x : RP} : ∀ {es : List ME} {L : List In}, es.map unborn = L.map mE -> match L.find? (fun y => decide (x = y.key)) with
    | some y => ∃ e, findM (elt x) es = some e /\ e.2.1 = .agg (inV y)
    | none => findM (elt x) es = none
  | [], L, h => by
    have : L = [] := by simpa using h.symm
    subst this
    rfl
  | e :: es, L, h => by
    cases L with
    | nil => simp at h
    | cons y L =>
      simp only [List.map_cons,List.cons.injEq] at h
      have h1 : e.1 = elt y.key /\ e.2.1 = .agg (inV y) := by
        have := h.1
        simp only [unborn,mE,Prod.mk.injEq] at this
        exact this
      unfold findM
      rw [List.find?_cons, List.find?_cons, h1.1, vsame_elt]
      cases hd : decide (x = y.key) with
      | true => exact ⟨e, rfl, h1.2⟩
      | false => exact findM_tab h.2
theorem putM_tab {x : In} {es : List ME} {L : List In} {c : Nat} (h : es.map unborn = L.map mE) : ((putM (elt x.key) (.agg (inV x)) es c).1).map unborn = (putL L x).map mE := by
  have hf := findM_tab (x := x.key) h
  unfold putM putL
  cases hx : L.find? (fun y => decide (x.key = y.key)) with
  | none =>
    rw [hx] at hf
    dsimp only at hf
    rw [hf, if_neg]
    · show (es ++ [_]).map unborn = _
      rw [List.map_append, List.map_append, h]; rfl
    · intro hm
      obtain ⟨y, hy, he⟩ := List.mem_map.1 hm
      have := List.find?_eq_none.1 hx y hy
      simp [he] at this
  | some y =>
    rw [hx] at hf
    obtain ⟨e, he, hr⟩ := hf
    clear hr
    rw [he, if_pos]
    · show (es.map _).map unborn = _
      rw [List.map_map, List.map_map]
      clear he hx e
      induction L generalizing es with
      | nil =>
        have : es = [] := by simpa using h
        subst this; rfl
      | cons y L ih =>
        cases es with
        | nil => simp at h
        | cons e es =>
          simp only [List.map_cons,List.cons.injEq] at h ⊢
          have h1 : e.1 = elt y.key /\ e.2.1 = .agg (inV y) := by
            have := h.1
            simp only [unborn,mE,Prod.mk.injEq] at this
            exact this
          refine ⟨?_, ih h.2⟩
          show unborn (_root_.cond (vsame (elt x.key) e.1) (e.1, .agg (inV x), e.2.2) e) = mE (if y.key = x.key then x else y)
          rw [h1.1, vsame_elt]
          by_cases hk : y.key = x.key
          · rw [if_pos hk, decide_eq_true hk.symm]
            show (elt y.key, V.agg (inV x)) = (elt x.key, V.agg (inV x))
            rw [hk]
          · rw [if_neg hk, decide_eq_false (fun e => hk e.symm)]
            show (e.1, e.2.1) = _
            rw [h1.1, h1.2]; try rfl
    · exact List.mem_map.2 ⟨y, List.mem_of_find?_eq_some hx, by have := List.find?_some hx; simp at this; exact this.symm⟩
def z0 : In := ⟨0, 0, 0, 0, 0, 0, 0, false, 0, 0, 0, 0, 0, .sl .nil 0 0 0, [], 0, .sl .nil 0 0 0, []⟩
theorem InAt.z0 (h : Heap) : InAt h z0 := ⟨⟨.nil, 0, 0, rfl, Nat.zero_le _, trivial, .inl rfl⟩, ⟨.nil, 0, 0, rfl, Nat.le_refl _, by decide, .inl rfl⟩⟩
def getL (L : List In) (k : RP) : In := (L.find? fun y => decide (k = y.key)).getD z0
def isL (L : List In) (k : RP) : Bool := (L.find? fun y => decide (k = y.key)).isSome
theorem lookup_tab {h : Heap} {m : Nat} {ex : Bool} {es : List ME} {c : Nat} {L : List In} (hm : h[m]? = some (.map ex es c)) (he : es.map unborn = L.map mE) (k : RP) (ok : Bool) (e : List TV) (l : Locs) :
    lookupV X.ty 123 (.v (.map m)) (.v (.agg [.int .i64 k.1, .int .i64 k.2])) ok ⟨e, l, h⟩ = some (.v (outV ok (.agg (inV (getL L k))) (isL L k))) := by
  have hf := findM_tab (x := k) he
  have hk := TabAt.keysM (h := h) he
  have hko := keyOk_ref k hk
  unfold lookupV
  rw [ty123]
  simp only [hm]
  unfold lookupIn
  unfold elt at hko hf
  unfold getL isL
  have hz : zeroV (X.ty 32) = some (.agg (inV z0)) := by rw [ty32]; rfl
  rw [hz]
  simp only [bnd,hko]
  cases hx : L.find? (fun y => decide (k = y.key)) with
  | none =>
    rw [hx] at hf
    dsimp only at hf
    rw [hf]
    rfl
  | some y =>
    rw [hx] at hf
    obtain ⟨e, he, h2⟩ := hf
    rw [he]
    show some (TV.v (outV ok e.2.1 true)) = _
    rw [h2]
    rfl
end Go.Ev
