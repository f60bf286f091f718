/-
Texts of this claim, one behind the other.
-/
import Derived.Test.YtidlajmifppcnaaAe
import Derived.KernelRfl
set_option linter.unusedSimpArgs false
set_option linter.unusedVariables false
set_option maxRecDepth 100000
namespace Go.Ev
open Go.Proofs
noncomputable def c2 : Code := (Try.f2.body).getD .skip
noncomputable def c3 : Code := (Try.f3.body).getD .skip
noncomputable def c4 : Code := (Try.f4.body).getD .skip
noncomputable def c5 : Code := (Try.f5.body).getD .skip
noncomputable def c6 : Code := (Try.f6.body).getD .skip
noncomputable def c7 : Code := (Try.f7.body).getD .skip
noncomputable def c8 : Code := (Try.f8.body).getD .skip
noncomputable def c9 : Code := (Try.f9.body).getD .skip
noncomputable def c10 : Code := (Try.f10.body).getD .skip
noncomputable def c11 : Code := (Try.f11.body).getD .skip
theorem body11 : X.body 11 = some (c11, 79, [.tmp 4]) := by kernel_rfl
theorem slot11 : X.slot 11 = fun t => posT [2, 8, 10] t 0 := rfl
theorem nslot11 : X.nslots 11 = 3 := rfl
theorem pin11 : X.pin 11 = none := rfl
theorem plan11_7 : X.plan 11 7 = [(0, [], []), (1, [], []), (2, [0], []), (3, [], [(1, [])]), (4, [], []), (5, [], [])] := by kernel_rfl
noncomputable def c12 : Code := (Try.f12.body).getD .skip
theorem body12 : X.body 12 = some (c12, 35, [.tmp 2]) := by kernel_rfl
theorem slot12 : X.slot 12 = fun t => posT [1] t 0 := rfl
theorem nslot12 : X.nslots 12 = 1 := rfl
theorem pin12 : X.pin 12 = none := rfl
noncomputable def c13 : Code := (Try.f13.body).getD .skip
noncomputable def c14 : Code := (Try.f14.body).getD .skip
noncomputable def c15 : Code := (Try.f15.body).getD .skip
noncomputable def c17 : Code := (Try.f17.body).getD .skip
theorem body17 : X.body 17 = some (c17, 59, [.tmp 4]) := by kernel_rfl
theorem slot17 : X.slot 17 = fun t => posT [2, 3] t 0 := rfl
theorem nslot17 : X.nslots 17 = 2 := rfl
theorem pin17 : X.pin 17 = none := rfl
noncomputable def c20 : Code := (Try.f20.body).getD .skip
theorem body20 : X.body 20 = some (c20, 4, [.tmp 0]) := by kernel_rfl
theorem slot20 : X.slot 20 = fun t => posT [] t 0 := rfl
theorem nslot20 : X.nslots 20 = 0 := rfl
theorem pin20 : X.pin 20 = none := rfl
noncomputable def c29 : Code := (Try.f29.body).getD .skip
theorem body29 : X.body 29 = some (c29, 26, [.tmp 4]) := by kernel_rfl
theorem slot29 : X.slot 29 = fun t => posT [] t 0 := rfl
theorem nslot29 : X.nslots 29 = 0 := rfl
theorem pin29 : X.pin 29 = none := rfl
theorem plan29_6 : X.plan 29 6 = [(0, [], []), (1, [], []), (2, [], []), (3, [], []), (4, [], []), (5, [], []), (6, [], []), (7, [], []), (8, [], [])] := by kernel_rfl
noncomputable def c35 : Code := (Try.f35.body).getD .skip
theorem body35 : X.body 35 = some (c35, 27, [.tmp 2]) := by kernel_rfl
theorem slot35 : X.slot 35 = fun t => posT [4, 5] t 0 := rfl
theorem nslot35 : X.nslots 35 = 2 := rfl
theorem pin35 : X.pin 35 = some (.s cloneG) := rfl
theorem plan35_7 : X.plan 35 7 = [(0, [], []), (1, [], []), (2, [], []), (3, [], []), (4, [0], []), (5, [1], []), (6, [], [(3, []), (4, [0])]), (7, [], [])] := by kernel_rfl
noncomputable def c36 : Code := (Try.f36.body).getD .skip
theorem body36 : X.body 36 = some (c36, 52, []) := by kernel_rfl
theorem slot36 : X.slot 36 = fun t => posT [3, 26] t 0 := rfl
theorem nslot36 : X.nslots 36 = 2 := rfl
theorem pin36 : X.pin 36 = none := rfl
noncomputable def c37 : Code := (Try.f37.body).getD .skip
theorem body37 : X.body 37 = some (c37, 8, [.tmp 2]) := by kernel_rfl
theorem slot37 : X.slot 37 = fun t => posT [] t 0 := rfl
theorem nslot37 : X.nslots 37 = 0 := rfl
theorem pin37 : X.pin 37 = none := rfl
noncomputable def c38 : Code := (Try.f38.body).getD .skip
theorem body38 : X.body 38 = some (c38, 83, [.tmp 2]) := by kernel_rfl
theorem slot38 : X.slot 38 = fun t => posT [1, 7, 28, 42, 45] t 0 := rfl
theorem nslot38 : X.nslots 38 = 5 := rfl
theorem pin38 : X.pin 38 = none := rfl
noncomputable def c39 : Code := (Try.f39.body).getD .skip
theorem body39 : X.body 39 = some (c39, 7, [.tmp 2]) := by kernel_rfl
theorem slot39 : X.slot 39 = fun t => posT [] t 0 := rfl
theorem nslot39 : X.nslots 39 = 0 := rfl
theorem pin39 : X.pin 39 = none := rfl
noncomputable def c40 : Code := (Try.f40.body).getD .skip
theorem body40 : X.body 40 = some (c40, 45, [.cell 2 31]) := by kernel_rfl
theorem slot40 : X.slot 40 = fun t => posT [18] t 0 := rfl
theorem nslot40 : X.nslots 40 = 1 := rfl
theorem pin40 : X.pin 40 = none := rfl
noncomputable def c41 : Code := (Try.f41.body).getD .skip
theorem body41 : X.body 41 = some (c41, 15, [.tmp 2]) := by kernel_rfl
theorem slot41 : X.slot 41 = fun t => posT [] t 0 := rfl
theorem nslot41 : X.nslots 41 = 0 := rfl
theorem pin41 : X.pin 41 = none := rfl
theorem plan41_3 : X.plan 41 3 = [(0, [], []), (1, [], []), (2, [], []), (3, [], []), (4, [], []), (5, [], []), (6, [], []), (7, [], []), (8, [], []), (9, [], []), (10, [], [])] := by kernel_rfl
noncomputable def c42 : Code := (Try.f42.body).getD .skip
theorem body42 : X.body 42 = some (c42, 11, [.tmp 2]) := by kernel_rfl
theorem slot42 : X.slot 42 = fun t => posT [] t 0 := rfl
theorem nslot42 : X.nslots 42 = 0 := rfl
theorem pin42 : X.pin 42 = none := rfl
noncomputable def c50 : Code := (Try.f50.body).getD .skip
theorem body50 : X.body 50 = some (c50, 66, [.tmp 4]) := by kernel_rfl
theorem slot50 : X.slot 50 = fun t => posT [2, 3] t 0 := rfl
theorem nslot50 : X.nslots 50 = 2 := rfl
theorem pin50 : X.pin 50 = none := rfl
theorem plan50_6 : X.plan 50 6 = [(0, [0], []), (1, [0], []), (2, [], []), (3, [], []), (4, [], []), (5, [1], []), (6, [1], []), (7, [], []), (8, [], []), (9, [], []), (10, [], [])] := by kernel_rfl
noncomputable def c54 : Code := (Try.f54.body).getD .skip
theorem body54 : X.body 54 = some (c54, 29, [.tmp 2]) := by kernel_rfl
theorem slot54 : X.slot 54 = fun t => posT [4, 24] t 0 := rfl
theorem nslot54 : X.nslots 54 = 2 := rfl
theorem pin54 : X.pin 54 = some (.s refsG) := rfl
noncomputable def c56 : Code := (Try.f56.body).getD .skip
theorem body56 : X.body 56 = some (c56, 14, [.cell 2 31]) := by kernel_rfl
theorem slot56 : X.slot 56 = fun t => posT [1, 2] t 0 := rfl
theorem nslot56 : X.nslots 56 = 2 := rfl
theorem pin56 : X.pin 56 = none := rfl
noncomputable def c60 : Code := (Try.f60.body).getD .skip
theorem body60 : X.body 60 = some (c60, 19, []) := by kernel_rfl
theorem slot60 : X.slot 60 = fun t => posT [] t 0 := rfl
theorem nslot60 : X.nslots 60 = 0 := rfl
theorem pin60 : X.pin 60 = none := rfl
noncomputable def c61 : Code := (Try.f61.body).getD .skip
theorem body61 : X.body 61 = some (c61, 9, []) := by kernel_rfl
theorem slot61 : X.slot 61 = fun t => posT [] t 0 := rfl
theorem nslot61 : X.nslots 61 = 0 := rfl
theorem pin61 : X.pin 61 = none := rfl
noncomputable def c62 : Code := (Try.f62.body).getD .skip
theorem body62 : X.body 62 = some (c62, 33, []) := by kernel_rfl
theorem slot62 : X.slot 62 = fun t => posT [3, 19] t 0 := rfl
theorem nslot62 : X.nslots 62 = 2 := rfl
theorem pin62 : X.pin 62 = none := rfl
noncomputable def c63 : Code := (Try.f63.body).getD .skip
theorem body63 : X.body 63 = some (c63, 24, []) := by kernel_rfl
theorem slot63 : X.slot 63 = fun t => posT [7] t 0 := rfl
theorem nslot63 : X.nslots 63 = 1 := rfl
theorem pin63 : X.pin 63 = none := rfl
noncomputable def c64 : Code := (Try.f64.body).getD .skip
theorem body64 : X.body 64 = some (c64, 12, []) := by kernel_rfl
theorem slot64 : X.slot 64 = fun t => posT [3] t 0 := rfl
theorem nslot64 : X.nslots 64 = 1 := rfl
theorem pin64 : X.pin 64 = none := rfl
noncomputable def c65 : Code := (Try.f65.body).getD .skip
theorem body65 : X.body 65 = some (c65, 17, [.tmp 2]) := by kernel_rfl
theorem slot65 : X.slot 65 = fun t => posT [] t 0 := rfl
theorem nslot65 : X.nslots 65 = 0 := rfl
theorem pin65 : X.pin 65 = none := rfl
noncomputable def c66 : Code := (Try.f66.body).getD .skip
theorem body66 : X.body 66 = some (c66, 51, [.tmp 2]) := by kernel_rfl
theorem slot66 : X.slot 66 = fun t => posT [1, 20] t 0 := rfl
theorem nslot66 : X.nslots 66 = 2 := rfl
theorem pin66 : X.pin 66 = none := rfl
noncomputable def c67 : Code := (Try.f67.body).getD .skip
theorem body67 : X.body 67 = some (c67, 20, [.tmp 2]) := by kernel_rfl
theorem slot67 : X.slot 67 = fun t => posT [] t 0 := rfl
theorem nslot67 : X.nslots 67 = 0 := rfl
theorem pin67 : X.pin 67 = none := rfl
noncomputable def c68 : Code := (Try.f68.body).getD .skip
theorem body68 : X.body 68 = some (c68, 28, [.tmp 2]) := by kernel_rfl
theorem slot68 : X.slot 68 = fun t => posT [] t 0 := rfl
theorem nslot68 : X.nslots 68 = 0 := rfl
theorem pin68 : X.pin 68 = none := rfl
noncomputable def c69 : Code := (Try.f69.body).getD .skip
theorem body69 : X.body 69 = some (c69, 12, [.tmp 2]) := by kernel_rfl
theorem slot69 : X.slot 69 = fun t => posT [] t 0 := rfl
theorem nslot69 : X.nslots 69 = 0 := rfl
theorem pin69 : X.pin 69 = none := rfl
noncomputable def c70 : Code := (Try.f70.body).getD .skip
theorem body70 : X.body 70 = some (c70, 31, [.cell 2 28]) := by kernel_rfl
theorem slot70 : X.slot 70 = fun t => posT [13] t 0 := rfl
theorem nslot70 : X.nslots 70 = 1 := rfl
theorem pin70 : X.pin 70 = none := rfl
noncomputable def c71 : Code := (Try.f71.body).getD .skip
theorem body71 : X.body 71 = some (c71, 40, [.tmp 4]) := by kernel_rfl
theorem slot71 : X.slot 71 = fun t => posT [35] t 0 := rfl
theorem nslot71 : X.nslots 71 = 1 := rfl
theorem pin71 : X.pin 71 = none := rfl
noncomputable def c72 : Code := (Try.f72.body).getD .skip
theorem body72 : X.body 72 = some (c72, 10, [.cell 2 23]) := by kernel_rfl
theorem slot72 : X.slot 72 = fun t => posT [2] t 0 := rfl
theorem nslot72 : X.nslots 72 = 1 := rfl
theorem pin72 : X.pin 72 = none := rfl
noncomputable def c78 : Code := (Try.f78.body).getD .skip
theorem body78 : X.body 78 = some (c78, 20, [.tmp 4]) := by kernel_rfl
theorem slot78 : X.slot 78 = fun t => posT [2, 3] t 0 := rfl
theorem nslot78 : X.nslots 78 = 2 := rfl
theorem pin78 : X.pin 78 = none := rfl
noncomputable def c80 : Code := (Try.f80.body).getD .skip
theorem body80 : X.body 80 = some (c80, 10, [.tmp 2]) := by kernel_rfl
theorem slot80 : X.slot 80 = fun t => posT [] t 0 := rfl
theorem nslot80 : X.nslots 80 = 0 := rfl
theorem pin80 : X.pin 80 = none := rfl
noncomputable def c83 : Code := (Try.f83.body).getD .skip
theorem body83 : X.body 83 = some (c83, 8, [.tmp 2]) := by kernel_rfl
theorem slot83 : X.slot 83 = fun t => posT [] t 0 := rfl
theorem nslot83 : X.nslots 83 = 0 := rfl
theorem pin83 : X.pin 83 = none := rfl
noncomputable def c84 : Code := (Try.f84.body).getD .skip
theorem body84 : X.body 84 = some (c84, 8, [.tmp 2]) := by kernel_rfl
theorem slot84 : X.slot 84 = fun t => posT [] t 0 := rfl
theorem nslot84 : X.nslots 84 = 0 := rfl
theorem pin84 : X.pin 84 = none := rfl
noncomputable def c85 : Code := (Try.f85.body).getD .skip
theorem body85 : X.body 85 = some (c85, 14, []) := by kernel_rfl
theorem slot85 : X.slot 85 = fun t => posT [10] t 0 := rfl
theorem nslot85 : X.nslots 85 = 1 := rfl
theorem pin85 : X.pin 85 = none := rfl
noncomputable def c86 : Code := (Try.f86.body).getD .skip
theorem body86 : X.body 86 = some (c86, 42, []) := by kernel_rfl
theorem slot86 : X.slot 86 = fun t => posT [26, 38] t 0 := rfl
theorem nslot86 : X.nslots 86 = 2 := rfl
theorem pin86 : X.pin 86 = none := rfl
theorem plan86_3 : X.plan 86 3 = [(0, [], []), (1, [], []), (2, [], []), (3, [], []), (4, [], []), (5, [], []), (6, [], []), (7, [], []), (8, [], []), (9, [], []), (10, [], []), (11, [], []), (12, [], []), (13, [0], []), (14, [], []), (15, [], []), (16, [], [])] := by kernel_rfl
noncomputable def c87 : Code := (Try.f87.body).getD .skip
theorem body87 : X.body 87 = some (c87, 24, []) := by kernel_rfl
theorem slot87 : X.slot 87 = fun t => posT [] t 0 := rfl
theorem nslot87 : X.nslots 87 = 0 := rfl
theorem pin87 : X.pin 87 = none := rfl
noncomputable def c88 : Code := (Try.f88.body).getD .skip
theorem body88 : X.body 88 = some (c88, 18, []) := by kernel_rfl
theorem slot88 : X.slot 88 = fun t => posT [] t 0 := rfl
theorem nslot88 : X.nslots 88 = 0 := rfl
theorem pin88 : X.pin 88 = none := rfl
noncomputable def c89 : Code := (Try.f89.body).getD .skip
theorem body89 : X.body 89 = some (c89, 10, [.tmp 2]) := by kernel_rfl
theorem slot89 : X.slot 89 = fun t => posT [] t 0 := rfl
theorem nslot89 : X.nslots 89 = 0 := rfl
theorem pin89 : X.pin 89 = none := rfl
noncomputable def c90 : Code := (Try.f90.body).getD .skip
theorem body90 : X.body 90 = some (c90, 26, [.tmp 2]) := by kernel_rfl
theorem slot90 : X.slot 90 = fun t => posT [] t 0 := rfl
theorem nslot90 : X.nslots 90 = 0 := rfl
theorem pin90 : X.pin 90 = none := rfl
theorem plan90_5 : X.plan 90 5 = [(0, [], []), (1, [], []), (2, [], []), (3, [], []), (4, [], []), (5, [], []), (6, [], []), (7, [], []), (8, [], []), (9, [], []), (10, [], []), (11, [], [])] := by kernel_rfl
noncomputable def c91 : Code := (Try.f91.body).getD .skip
theorem body91 : X.body 91 = some (c91, 33, [.tmp 2]) := by kernel_rfl
theorem slot91 : X.slot 91 = fun t => posT [] t 0 := rfl
theorem nslot91 : X.nslots 91 = 0 := rfl
theorem pin91 : X.pin 91 = none := rfl
noncomputable def c92 : Code := (Try.f92.body).getD .skip
theorem body92 : X.body 92 = some (c92, 15, []) := by kernel_rfl
theorem slot92 : X.slot 92 = fun t => posT [] t 0 := rfl
theorem nslot92 : X.nslots 92 = 0 := rfl
theorem pin92 : X.pin 92 = none := rfl
noncomputable def c93 : Code := (Try.f93.body).getD .skip
theorem body93 : X.body 93 = some (c93, 40, [.tmp 4]) := by kernel_rfl
theorem slot93 : X.slot 93 = fun t => posT [35] t 0 := rfl
theorem nslot93 : X.nslots 93 = 1 := rfl
theorem pin93 : X.pin 93 = none := rfl
noncomputable def c94 : Code := (Try.f94.body).getD .skip
theorem body94 : X.body 94 = some (c94, 45, [.tmp 2]) := by kernel_rfl
theorem slot94 : X.slot 94 = fun t => posT [] t 0 := rfl
theorem nslot94 : X.nslots 94 = 0 := rfl
theorem pin94 : X.pin 94 = none := rfl
theorem plan94_8 : X.plan 94 8 = [(0, [], []), (1, [], []), (2, [], []), (3, [], []), (4, [], []), (5, [], []), (6, [], []), (7, [], []), (8, [], []), (9, [], []), (10, [], []), (11, [], []), (12, [], []), (13, [], []), (14, [], []), (15, [], []), (16, [], []), (17, [], [])] := by kernel_rfl
noncomputable def c96 : Code := (Try.f96.body).getD .skip
theorem body96 : X.body 96 = some (c96, 36, [.tmp 2]) := by kernel_rfl
theorem slot96 : X.slot 96 = fun t => posT [] t 0 := rfl
theorem nslot96 : X.nslots 96 = 0 := rfl
theorem pin96 : X.pin 96 = none := rfl
noncomputable def c97 : Code := (Try.f97.body).getD .skip
theorem body97 : X.body 97 = some (c97, 14, []) := by kernel_rfl
theorem slot97 : X.slot 97 = fun t => posT [] t 0 := rfl
theorem nslot97 : X.nslots 97 = 0 := rfl
theorem pin97 : X.pin 97 = none := rfl
noncomputable def c98 : Code := (Try.f98.body).getD .skip
theorem body98 : X.body 98 = some (c98, 12, [.tmp 4]) := by kernel_rfl
theorem slot98 : X.slot 98 = fun t => posT [2, 3] t 0 := rfl
theorem nslot98 : X.nslots 98 = 2 := rfl
theorem pin98 : X.pin 98 = none := rfl
theorem plan98_1 : X.plan 98 1 = [(0, [0], []), (1, [1], []), (3, [1], []), (4, [0], []), (2, [], [(3, [1]), (4, [0])]), (5, [], []), (6, [], []), (7, [], [])] := by kernel_rfl
noncomputable def c99 : Code := (Try.f99.body).getD .skip
theorem body99 : X.body 99 = some (c99, 9, [.tmp 4]) := by kernel_rfl
theorem slot99 : X.slot 99 = fun t => posT [] t 0 := rfl
theorem nslot99 : X.nslots 99 = 0 := rfl
theorem pin99 : X.pin 99 = none := rfl
noncomputable def c100 : Code := (Try.f100.body).getD .skip
theorem body100 : X.body 100 = some (c100, 61, [.tmp 2]) := by kernel_rfl
theorem slot100 : X.slot 100 = fun t => posT [] t 0 := rfl
theorem nslot100 : X.nslots 100 = 0 := rfl
theorem pin100 : X.pin 100 = none := rfl
theorem plan100_6 : X.plan 100 6 = [(0, [], []), (1, [], []), (2, [], []), (3, [], []), (4, [], []), (5, [], []), (6, [], []), (7, [], []), (8, [], []), (9, [], [])] := by kernel_rfl
theorem plan100_11 : X.plan 100 11 = [(0, [], []), (1, [], []), (2, [], []), (3, [], []), (4, [], []), (5, [], []), (6, [], []), (7, [], []), (8, [], []), (9, [], [])] := by kernel_rfl
noncomputable def c103 : Code := (Try.f103.body).getD .skip
theorem body103 : X.body 103 = some (c103, 25, [.tmp 2]) := by kernel_rfl
theorem slot103 : X.slot 103 = fun t => posT [] t 0 := rfl
theorem nslot103 : X.nslots 103 = 0 := rfl
theorem pin103 : X.pin 103 = none := rfl
noncomputable def c104 : Code := (Try.f104.body).getD .skip
theorem body104 : X.body 104 = some (c104, 27, [.tmp 4]) := by kernel_rfl
theorem slot104 : X.slot 104 = fun t => posT [] t 0 := rfl
theorem nslot104 : X.nslots 104 = 0 := rfl
theorem pin104 : X.pin 104 = none := rfl
noncomputable def c105 : Code := (Try.f105.body).getD .skip
theorem body105 : X.body 105 = some (c105, 148, []) := by kernel_rfl
theorem slot105 : X.slot 105 = fun t => posT [] t 0 := rfl
theorem nslot105 : X.nslots 105 = 0 := rfl
theorem pin105 : X.pin 105 = none := rfl
theorem plan105_17 : X.plan 105 17 = [(0, [], []), (1, [], []), (2, [], []), (3, [], []), (4, [], []), (5, [], []), (6, [], []), (7, [], []), (8, [], []), (9, [], []), (10, [], []), (11, [], []), (12, [], []), (13, [], []), (14, [], []), (15, [], []), (16, [], [])] := by kernel_rfl
noncomputable def c106 : Code := (Try.f106.body).getD .skip
theorem body106 : X.body 106 = some (c106, 8, [.tmp 2]) := by kernel_rfl
theorem slot106 : X.slot 106 = fun t => posT [] t 0 := rfl
theorem nslot106 : X.nslots 106 = 0 := rfl
theorem pin106 : X.pin 106 = none := rfl
noncomputable def c107 : Code := (Try.f107.body).getD .skip
theorem body107 : X.body 107 = some (c107, 53, []) := by kernel_rfl
theorem slot107 : X.slot 107 = fun t => posT [] t 0 := rfl
theorem nslot107 : X.nslots 107 = 0 := rfl
theorem pin107 : X.pin 107 = none := rfl
theorem plan107_4 : X.plan 107 4 = [(0, [], []), (1, [], []), (2, [], []), (3, [], []), (4, [], []), (5, [], []), (6, [], []), (7, [], []), (8, [], []), (9, [], []), (10, [], []), (11, [], []), (12, [], []), (13, [], []), (14, [], []), (15, [], []), (16, [], [])] := by kernel_rfl
theorem plan107_6 : X.plan 107 6 = [(0, [], []), (1, [], []), (2, [], []), (3, [], []), (4, [], []), (5, [], []), (6, [], []), (7, [], []), (8, [], []), (9, [], []), (10, [], []), (11, [], []), (12, [], []), (13, [], []), (14, [], []), (15, [], []), (16, [], []), (17, [], [])] := by kernel_rfl
noncomputable def c108 : Code := (Try.f108.body).getD .skip
theorem body108 : X.body 108 = some (c108, 60, []) := by kernel_rfl
theorem slot108 : X.slot 108 = fun t => posT [] t 0 := rfl
theorem nslot108 : X.nslots 108 = 0 := rfl
theorem pin108 : X.pin 108 = none := rfl
theorem plan108_10 : X.plan 108 10 = [(0, [], []), (1, [], []), (2, [], []), (3, [], []), (4, [], []), (5, [], []), (6, [], []), (7, [], []), (8, [], []), (9, [], []), (10, [], []), (11, [], []), (12, [], []), (13, [], []), (14, [], []), (15, [], []), (16, [], []), (17, [], []), (18, [], []), (19, [], [])] := by kernel_rfl
noncomputable def c109 : Code := (Try.f109.body).getD .skip
theorem body109 : X.body 109 = some (c109, 67, []) := by kernel_rfl
theorem slot109 : X.slot 109 = fun t => posT [] t 0 := rfl
theorem nslot109 : X.nslots 109 = 0 := rfl
theorem pin109 : X.pin 109 = none := rfl
theorem plan109_10 : X.plan 109 10 = [(0, [], []), (1, [], []), (2, [], []), (3, [], []), (4, [], []), (5, [], []), (6, [], []), (7, [], []), (8, [], []), (9, [], []), (10, [], []), (11, [], []), (12, [], []), (13, [], []), (14, [], []), (15, [], []), (16, [], []), (17, [], []), (18, [], []), (19, [], [])] := by kernel_rfl
noncomputable def c110 : Code := (Try.f110.body).getD .skip
theorem body110 : X.body 110 = some (c110, 63, [.tmp 8, .tmp 9]) := by kernel_rfl
theorem slot110 : X.slot 110 = fun t => posT [] t 0 := rfl
theorem nslot110 : X.nslots 110 = 0 := rfl
theorem pin110 : X.pin 110 = none := rfl
noncomputable def c111 : Code := (Try.f111.body).getD .skip
theorem body111 : X.body 111 = some (c111, 34, []) := by kernel_rfl
theorem slot111 : X.slot 111 = fun t => posT [] t 0 := rfl
theorem nslot111 : X.nslots 111 = 0 := rfl
theorem pin111 : X.pin 111 = none := rfl
theorem plan111_3 : X.plan 111 3 = [(0, [], []), (1, [], []), (2, [], []), (3, [], []), (4, [], []), (5, [], []), (6, [], []), (7, [], []), (8, [], []), (9, [], []), (10, [], []), (11, [], []), (12, [], []), (13, [], []), (14, [], []), (15, [], [])] := by kernel_rfl
noncomputable def c112 : Code := (Try.f112.body).getD .skip
theorem body112 : X.body 112 = some (c112, 141, [.tmp 8]) := by kernel_rfl
theorem slot112 : X.slot 112 = fun t => posT [] t 0 := rfl
theorem nslot112 : X.nslots 112 = 0 := rfl
theorem pin112 : X.pin 112 = none := rfl
theorem plan112_5 : X.plan 112 5 = [(0, [], []), (1, [], []), (2, [], []), (3, [], []), (4, [], []), (5, [], []), (6, [], []), (7, [], []), (8, [], []), (9, [], []), (10, [], []), (11, [], []), (12, [], []), (13, [], []), (14, [], []), (15, [], []), (16, [], []), (17, [], [])] := by kernel_rfl
theorem plan112_11 : X.plan 112 11 = [(0, [], []), (1, [], []), (2, [], []), (3, [], []), (4, [], []), (5, [], []), (6, [], []), (7, [], []), (8, [], []), (9, [], []), (10, [], []), (11, [], []), (12, [], []), (13, [], []), (14, [], []), (15, [], []), (16, [], []), (17, [], [])] := by kernel_rfl
theorem plan112_16 : X.plan 112 16 = [(0, [], []), (1, [], []), (2, [], []), (3, [], []), (4, [], []), (5, [], []), (6, [], []), (7, [], []), (8, [], []), (9, [], []), (10, [], []), (11, [], []), (12, [], [])] := by kernel_rfl
theorem plan112_17 : X.plan 112 17 = [(0, [], []), (1, [], []), (2, [], []), (3, [], []), (4, [], []), (5, [], []), (6, [], []), (7, [], []), (8, [], []), (9, [], []), (10, [], []), (11, [], []), (12, [], []), (13, [], []), (14, [], []), (15, [], []), (16, [], []), (17, [], [])] := by kernel_rfl
theorem plan112_22 : X.plan 112 22 = [(0, [], []), (1, [], []), (2, [], []), (3, [], []), (4, [], []), (5, [], []), (6, [], []), (7, [], []), (8, [], []), (9, [], []), (10, [], []), (11, [], []), (12, [], [])] := by kernel_rfl
theorem plan112_23 : X.plan 112 23 = [(0, [], []), (1, [], []), (2, [], []), (3, [], []), (4, [], []), (5, [], []), (6, [], []), (7, [], []), (8, [], []), (9, [], []), (10, [], []), (11, [], []), (12, [], []), (13, [], []), (14, [], []), (15, [], []), (16, [], []), (17, [], [])] := by kernel_rfl
noncomputable def c113 : Code := (Try.f113.body).getD .skip
theorem body113 : X.body 113 = some (c113, 90, [.tmp 10]) := by kernel_rfl
theorem slot113 : X.slot 113 = fun t => posT [] t 0 := rfl
theorem nslot113 : X.nslots 113 = 0 := rfl
theorem pin113 : X.pin 113 = none := rfl
theorem plan113_1 : X.plan 113 1 = [(0, [], []), (1, [], []), (2, [], []), (3, [], []), (4, [], []), (5, [], []), (6, [], []), (7, [], []), (8, [], []), (9, [], []), (10, [], []), (11, [], []), (12, [], []), (13, [], []), (14, [], []), (15, [], [])] := by kernel_rfl
theorem plan113_3 : X.plan 113 3 = [(0, [], []), (1, [], []), (2, [], []), (3, [], []), (4, [], []), (5, [], []), (6, [], []), (7, [], []), (8, [], []), (9, [], []), (10, [], []), (11, [], []), (12, [], []), (13, [], []), (14, [], []), (15, [], []), (16, [], [])] := by kernel_rfl
theorem plan113_5 : X.plan 113 5 = [(0, [], []), (1, [], []), (2, [], []), (3, [], []), (4, [], []), (5, [], []), (6, [], []), (7, [], []), (8, [], []), (9, [], []), (10, [], []), (11, [], []), (12, [], []), (13, [], []), (14, [], []), (15, [], [])] := by kernel_rfl
theorem plan113_8 : X.plan 113 8 = [(0, [], []), (1, [], []), (2, [], []), (3, [], []), (4, [], []), (5, [], []), (6, [], []), (7, [], []), (8, [], []), (9, [], []), (10, [], []), (11, [], []), (12, [], []), (13, [], []), (14, [], []), (15, [], [])] := by kernel_rfl
noncomputable def c114 : Code := (Try.f114.body).getD .skip
theorem body114 : X.body 114 = some (c114, 178, [.tmp 10, .tmp 11]) := by kernel_rfl
theorem slot114 : X.slot 114 = fun t => posT [] t 0 := rfl
theorem nslot114 : X.nslots 114 = 0 := rfl
theorem pin114 : X.pin 114 = none := rfl
theorem plan114_1 : X.plan 114 1 = [(0, [], []), (1, [], []), (2, [], []), (3, [], []), (4, [], []), (5, [], []), (6, [], []), (7, [], []), (8, [], []), (9, [], []), (10, [], []), (11, [], []), (12, [], []), (13, [], []), (14, [], []), (15, [], [])] := by kernel_rfl
theorem plan114_3 : X.plan 114 3 = [(0, [], []), (1, [], []), (2, [], []), (3, [], []), (4, [], []), (5, [], []), (6, [], []), (7, [], []), (8, [], []), (9, [], []), (10, [], []), (11, [], []), (12, [], []), (13, [], []), (14, [], []), (15, [], [])] := by kernel_rfl
theorem plan114_5 : X.plan 114 5 = [(0, [], []), (1, [], []), (2, [], []), (3, [], []), (4, [], []), (5, [], []), (6, [], []), (7, [], []), (8, [], []), (9, [], []), (10, [], []), (11, [], []), (12, [], []), (13, [], []), (14, [], []), (15, [], []), (16, [], [])] := by kernel_rfl
theorem plan114_8 : X.plan 114 8 = [(0, [], []), (1, [], []), (2, [], []), (3, [], []), (4, [], []), (5, [], []), (6, [], []), (7, [], []), (8, [], []), (9, [], []), (10, [], []), (11, [], []), (12, [], []), (13, [], []), (14, [], []), (15, [], [])] := by kernel_rfl
theorem plan114_10 : X.plan 114 10 = [(0, [], []), (1, [], []), (2, [], []), (3, [], []), (4, [], []), (5, [], []), (6, [], []), (7, [], []), (8, [], []), (9, [], []), (10, [], []), (11, [], []), (12, [], []), (13, [], []), (14, [], []), (15, [], [])] := by kernel_rfl
theorem plan114_13 : X.plan 114 13 = [(0, [], []), (1, [], []), (2, [], []), (3, [], []), (4, [], []), (5, [], []), (6, [], []), (7, [], []), (8, [], []), (9, [], []), (10, [], []), (11, [], []), (12, [], []), (13, [], []), (14, [], []), (15, [], [])] := by kernel_rfl
theorem plan114_15 : X.plan 114 15 = [(0, [], []), (1, [], []), (2, [], []), (3, [], []), (4, [], []), (5, [], []), (6, [], []), (7, [], []), (8, [], []), (9, [], []), (10, [], []), (11, [], []), (12, [], []), (13, [], []), (14, [], []), (15, [], []), (16, [], [])] := by kernel_rfl
theorem plan114_18 : X.plan 114 18 = [(0, [], []), (1, [], []), (2, [], []), (3, [], []), (4, [], []), (5, [], []), (6, [], []), (7, [], []), (8, [], []), (9, [], []), (10, [], []), (11, [], []), (12, [], []), (13, [], []), (14, [], []), (15, [], [])] := by kernel_rfl
theorem plan114_21 : X.plan 114 21 = [(0, [], []), (1, [], []), (2, [], []), (3, [], []), (4, [], []), (5, [], []), (6, [], []), (7, [], []), (8, [], []), (9, [], []), (10, [], []), (11, [], []), (12, [], []), (13, [], []), (14, [], []), (15, [], [])] := by kernel_rfl
noncomputable def c116 : Code := (Try.f116.body).getD .skip
theorem body116 : X.body 116 = some (c116, 82, []) := by kernel_rfl
theorem slot116 : X.slot 116 = fun t => posT [] t 0 := rfl
theorem nslot116 : X.nslots 116 = 0 := rfl
theorem pin116 : X.pin 116 = none := rfl
theorem plan116_3 : X.plan 116 3 = [(0, [], []), (1, [], []), (2, [], []), (3, [], []), (4, [], []), (5, [], []), (6, [], []), (7, [], []), (8, [], []), (9, [], []), (10, [], []), (11, [], []), (12, [], []), (13, [], []), (14, [], []), (15, [], []), (16, [], []), (17, [], []), (18, [], []), (19, [], []), (20, [], []), (21, [], [])] := by kernel_rfl
theorem plan116_5 : X.plan 116 5 = [(0, [], []), (1, [], []), (2, [], []), (3, [], []), (4, [], []), (5, [], []), (6, [], []), (7, [], []), (8, [], []), (9, [], []), (10, [], []), (11, [], []), (12, [], []), (13, [], []), (14, [], []), (15, [], [])] := by kernel_rfl
theorem plan116_6 : X.plan 116 6 = [(0, [], []), (1, [], []), (2, [], []), (3, [], []), (4, [], []), (5, [], []), (6, [], []), (7, [], []), (8, [], []), (9, [], []), (10, [], []), (11, [], []), (12, [], []), (13, [], []), (14, [], []), (15, [], []), (16, [], []), (17, [], []), (18, [], []), (19, [], []), (20, [], []), (21, [], []), (22, [], []), (23, [], [])] := by kernel_rfl
noncomputable def c117 : Code := (Try.f117.body).getD .skip
theorem body117 : X.body 117 = some (c117, 7, [.tmp 2]) := by kernel_rfl
theorem slot117 : X.slot 117 = fun t => posT [] t 0 := rfl
theorem nslot117 : X.nslots 117 = 0 := rfl
theorem pin117 : X.pin 117 = none := rfl
noncomputable def c118 : Code := (Try.f118.body).getD .skip
theorem body118 : X.body 118 = some (c118, 33, [.tmp 2]) := by kernel_rfl
theorem slot118 : X.slot 118 = fun t => posT [] t 0 := rfl
theorem nslot118 : X.nslots 118 = 0 := rfl
theorem pin118 : X.pin 118 = none := rfl
theorem plan118_1 : X.plan 118 1 = [(0, [], []), (1, [], []), (2, [], []), (3, [], []), (4, [], []), (5, [], []), (6, [], []), (7, [], []), (8, [], []), (9, [], [])] := by kernel_rfl
theorem plan118_2 : X.plan 118 2 = [(0, [], []), (1, [], []), (2, [], []), (3, [], []), (4, [], []), (5, [], []), (6, [], []), (7, [], []), (8, [], []), (9, [], [])] := by kernel_rfl
theorem plan118_3 : X.plan 118 3 = [(0, [], []), (1, [], []), (2, [], []), (3, [], []), (4, [], []), (5, [], []), (6, [], []), (7, [], []), (8, [], []), (9, [], [])] := by kernel_rfl
noncomputable def c119 : Code := (Try.f119.body).getD .skip
theorem body119 : X.body 119 = some (c119, 18, [.tmp 8]) := by kernel_rfl
theorem slot119 : X.slot 119 = fun t => posT [] t 0 := rfl
theorem nslot119 : X.nslots 119 = 0 := rfl
theorem pin119 : X.pin 119 = none := rfl
noncomputable def c120 : Code := (Try.f120.body).getD .skip
theorem body120 : X.body 120 = some (c120, 41, [.tmp 12]) := by kernel_rfl
theorem slot120 : X.slot 120 = fun t => posT [] t 0 := rfl
theorem nslot120 : X.nslots 120 = 0 := rfl
theorem pin120 : X.pin 120 = none := rfl
noncomputable def c121 : Code := (Try.f121.body).getD .skip
theorem body121 : X.body 121 = some (c121, 32, [.tmp 10, .tmp 11]) := by kernel_rfl
theorem slot121 : X.slot 121 = fun t => posT [] t 0 := rfl
theorem nslot121 : X.nslots 121 = 0 := rfl
theorem pin121 : X.pin 121 = none := rfl
theorem plan121_1 : X.plan 121 1 = [(0, [], []), (1, [], []), (2, [], []), (3, [], []), (4, [], []), (5, [], []), (6, [], []), (7, [], []), (8, [], []), (9, [], []), (10, [], [])] := by kernel_rfl
end Go.Ev
namespace Go.Ev
theorem ty2 : X.ty 2 = ⟨(.int .i64), 1, 8, [(.int .i64 0)], true⟩ := by kernel_rfl
theorem ty3 : X.ty 3 = ⟨(.int .i64), 1, 8, [(.int .i64 0)], true⟩ := by kernel_rfl
theorem ty4 : X.ty 4 = ⟨.bool, 1, 1, [(.bool false)], true⟩ := by kernel_rfl
theorem ty5 : X.ty 5 = ⟨(.int .u8), 1, 1, [(.int .u8 0)], true⟩ := by kernel_rfl
theorem ty9 : X.ty 9 = ⟨.str, 1, 16, [(.str ⟨#[]⟩)], true⟩ := by kernel_rfl
theorem ty22 : X.ty 22 = ⟨(.struct [(0, 3), (1, 3)]), 2, 16, [(.int .i64 0), (.int .i64 0)], true⟩ := by kernel_rfl
theorem ty23 : X.ty 23 = ⟨(.struct [(0, 3), (1, 3)]), 2, 16, [(.int .i64 0), (.int .i64 0)], true⟩ := by kernel_rfl
theorem ty24 : X.ty 24 = ⟨(.struct [(0, 3), (1, 3)]), 2, 16, [(.int .i64 0), (.int .i64 0)], true⟩ := by kernel_rfl
theorem ty25 : X.ty 25 = ⟨(.struct [(0, 3), (1, 3)]), 2, 16, [(.int .i64 0), (.int .i64 0)], true⟩ := by kernel_rfl
theorem ty26 : X.ty 26 = ⟨(.slice 9), 1, 24, [(.sl .nil 0 0 0)], true⟩ := by kernel_rfl
theorem ty27 : X.ty 27 = ⟨(.struct [(0, 3), (1, 3), (2, 3), (3, 3), (4, 3), (5, 26)]), 6, 64, [(.int .i64 0), (.int .i64 0), (.int .i64 0), (.int .i64 0), (.int .i64 0), (.sl .nil 0 0 0)], true⟩ := by kernel_rfl
theorem ty28 : X.ty 28 = ⟨(.struct [(0, 3), (1, 3), (2, 3), (3, 3), (4, 3), (5, 26)]), 6, 64, [(.int .i64 0), (.int .i64 0), (.int .i64 0), (.int .i64 0), (.int .i64 0), (.sl .nil 0 0 0)], true⟩ := by kernel_rfl
theorem ty29 : X.ty 29 = ⟨(.slice 23), 1, 24, [(.sl .nil 0 0 0)], true⟩ := by kernel_rfl
theorem ty30 : X.ty 30 = ⟨(.struct [(0, 23), (2, 25), (4, 25), (6, 3), (7, 4), (8, 28), (14, 3), (15, 29)]), 16, 160, [(.int .i64 0), (.int .i64 0), (.int .i64 0), (.int .i64 0), (.int .i64 0), (.int .i64 0), (.int .i64 0), (.bool false), (.int .i64 0), (.int .i64 0), (.int .i64 0), (.int .i64 0), (.int .i64 0), (.sl .nil 0 0 0), (.int .i64 0), (.sl .nil 0 0 0)], true⟩ := by kernel_rfl
theorem ty31 : X.ty 31 = ⟨(.struct [(0, 23), (2, 25), (4, 25), (6, 3), (7, 4), (8, 28), (14, 3), (15, 29)]), 16, 160, [(.int .i64 0), (.int .i64 0), (.int .i64 0), (.int .i64 0), (.int .i64 0), (.int .i64 0), (.int .i64 0), (.bool false), (.int .i64 0), (.int .i64 0), (.int .i64 0), (.int .i64 0), (.int .i64 0), (.sl .nil 0 0 0), (.int .i64 0), (.sl .nil 0 0 0)], true⟩ := by kernel_rfl
theorem ty37 : X.ty 37 = ⟨(.ptr 84), 1, 8, [.nilp], true⟩ := by kernel_rfl
theorem ty67 : X.ty 67 = ⟨(.slice 5), 1, 24, [(.sl .nil 0 0 0)], true⟩ := by kernel_rfl
theorem ty68 : X.ty 68 = ⟨(.int .u64), 1, 8, [(.int .u64 0)], true⟩ := by kernel_rfl
theorem ty69 : X.ty 69 = ⟨(.struct [(0, 67)]), 1, 24, [(.sl .nil 0 0 0)], true⟩ := by kernel_rfl
theorem ty70 : X.ty 70 = ⟨(.struct [(0, 67)]), 1, 24, [(.sl .nil 0 0 0)], true⟩ := by kernel_rfl
theorem ty72 : X.ty 72 = ⟨(.ptr 70), 1, 8, [.nilp], true⟩ := by kernel_rfl
theorem ty75 : X.ty 75 = ⟨(.ptr 101), 1, 8, [.nilp], true⟩ := by kernel_rfl
theorem ty82 : X.ty 82 = ⟨(.map 23 31), 1, 8, [.nilm], true⟩ := by kernel_rfl
theorem ty83 : X.ty 83 = ⟨(.struct [(0, 82)]), 1, 8, [.nilm], true⟩ := by kernel_rfl
theorem ty84 : X.ty 84 = ⟨(.struct [(0, 82)]), 1, 8, [.nilm], true⟩ := by kernel_rfl
theorem ty90 : X.ty 90 = ⟨(.slice 3), 1, 24, [(.sl .nil 0 0 0)], true⟩ := by kernel_rfl
theorem ty95 : X.ty 95 = ⟨.func, 1, 8, [.nilFn], true⟩ := by kernel_rfl
theorem ty99 : X.ty 99 = ⟨(.int .u64), 1, 8, [(.int .u64 0)], true⟩ := by kernel_rfl
theorem ty100 : X.ty 100 = ⟨(.struct [(0, 67), (1, 3), (2, 4)]), 3, 40, [(.sl .nil 0 0 0), (.int .i64 0), (.bool false)], true⟩ := by kernel_rfl
theorem ty101 : X.ty 101 = ⟨(.struct [(0, 67), (1, 3), (2, 4)]), 3, 40, [(.sl .nil 0 0 0), (.int .i64 0), (.bool false)], true⟩ := by kernel_rfl
theorem ty102 : X.ty 102 = ⟨(.ptr 3), 1, 8, [.nilp], true⟩ := by kernel_rfl
theorem ty103 : X.ty 103 = ⟨(.slice 102), 1, 24, [(.sl .nil 0 0 0)], true⟩ := by kernel_rfl
theorem ty107 : X.ty 107 = ⟨.func, 1, 8, [.nilFn], true⟩ := by kernel_rfl
theorem ty119 : X.ty 119 = ⟨.func, 1, 8, [.nilFn], true⟩ := by kernel_rfl
theorem ty125 : X.ty 125 = ⟨.func, 1, 8, [.nilFn], true⟩ := by kernel_rfl
theorem ty128 : X.ty 128 = ⟨(.slice 29), 1, 24, [(.sl .nil 0 0 0)], true⟩ := by kernel_rfl
theorem ty131 : X.ty 131 = ⟨.func, 1, 8, [.nilFn], true⟩ := by kernel_rfl
theorem ty139 : X.ty 139 = ⟨(.int .i64), 1, 8, [(.int .i64 0)], true⟩ := by kernel_rfl
theorem ty147 : X.ty 147 = ⟨(.int .u32), 1, 4, [(.int .u32 0)], true⟩ := by kernel_rfl
theorem ty148 : X.ty 148 = ⟨(.int .u64), 1, 8, [(.int .u64 0)], true⟩ := by kernel_rfl
end Go.Ev
set_option maxRecDepth 100000
namespace Go.Ev
open Go.Proofs
def In64 (n : Int) : Prop := -9223372036854775808 <= n /\ n <= 9223372036854775807
theorem in64_of {i : Int} (h : (Lit.int .i64 i).wf = true) : In64 i := by
  simp only [Lit.wf,IntKind.min,IntKind.max,IntKind.signed,IntKind.bits] at h
  simp at h
  unfold In64
  omega
theorem fits_int {h : Heap} {d : Nat} {cs : List V} (hf : Fits X.ty h (d + 1) 3 cs) : ∃ i, cs = [.int .i64 i] /\ In64 i := by
  unfold Fits at hf
  rw [ty3] at hf
  obtain ⟨i, rfl, h1⟩ := hf
  exact ⟨i, rfl, in64_of h1⟩
def Strs (h : Heap) (v : V) (l : List ByteArray) : Prop :=
  (∀ s ∈ l, s.size <= 9223372036854775807) /\ l.length <= 9223372036854775807 /\ ((v = .sl .nil 0 0 0 /\ l = []) \/ (v = .sl .any 0 0 1 /\ l = []) \/ ∃ b cap full, v = .sl (.at b 0 0) l.length cap 0 /\ l.length <= cap /\ cap <= 9223372036854775807 /\ h[b]? = some (.cells 0 false full) /\ full.length = cap /\ ∀ (i : Nat) (s : ByteArray), l[i]? = some s -> full[i]? = some (V.str s))
theorem fits_strs {h : Heap} {d : Nat} {cs : List V} (hf : Fits X.ty h (d + 2) 26 cs) : ∃ v l, cs = [v] /\ Strs h v l := by
  unfold Fits at hf
  rw [ty26] at hf
  have hmax : maxLen = 9223372036854775807 := by decide
  rw [hmax] at hf
  rcases hf with rfl | rfl | ⟨b, len, cap, full, rfl, h1, h2, h3, h4, h5, h6⟩
  · exact ⟨_, [], rfl, by simp, by decide, .inl ⟨rfl, rfl⟩⟩
  · exact ⟨_, [], rfl, by simp, by decide, .inr (.inl ⟨rfl, rfl⟩)⟩
  · have hsz : (X.ty 9).size = 1 := by rw [ty9]
    rw [hsz] at h5 h6
    have hs : ∀ i, i < cap -> ∃ s : ByteArray, full[i]? = some (V.str s) /\ s.size <= 9223372036854775807 := by
      intro i hi
      have h7 := h6 i hi
      unfold Fits at h7
      rw [ty9] at h7
      rw [hmax] at h7
      obtain ⟨s, h8, h9⟩ := h7
      refine ⟨s, ?_, h9⟩
      have := congrArg (fun l => l[0]?) h8
      simpa using this
    let g : Nat -> ByteArray := fun i => match full[i]? with | some (.str s) => s | _ => .empty
    have hg : ∀ i, i < cap -> full[i]? = some (V.str (g i)) /\ (g i).size <= 9223372036854775807 := by
      intro i hi
      obtain ⟨s, h7, h8⟩ := hs i hi
      simp only [g,h7]
      exact ⟨trivial, h8⟩
    refine ⟨_, (List.range len).map g, rfl, ?_, by rw [List.length_map, List.length_range]; omega, .inr (.inr ⟨b, cap, full, by simp, by simpa using h2, h3, h4, by simpa using h5, ?_⟩)⟩
    · intro s hm
      obtain ⟨i, hi, rfl⟩ := List.mem_map.1 hm
      have := List.mem_range.1 hi
      exact (hg i (by omega)).2
    · intro i s hi
      rw [List.getElem?_map] at hi
      cases hr : (List.range len)[i]? with
      | none => rw [hr] at hi; cases hi
      | some j =>
        rw [hr] at hi
        have hj : i < len := by have := (List.getElem?_eq_some_iff.1 hr).1; simpa using this
        have : j = i := by rw [List.getElem?_range hj] at hr; exact (Option.some.inj hr).symm
        subst this
        simp only [Option.map_some,Option.some.injEq] at hi
        subst hi
        exact (hg j (by omega)).1
theorem Strs.sl {h : Heap} {v : V} {l : List ByteArray} (hs : Strs h v l) : ∃ a len cap z, v = .sl a len cap z := by
  obtain ⟨_, _, ⟨rfl, _⟩ | ⟨rfl, _⟩ | ⟨b, cap, full, rfl, _⟩⟩ := hs
  · exact ⟨_, _, _, _, rfl⟩
  · exact ⟨_, _, _, _, rfl⟩
  · exact ⟨_, _, _, _, rfl⟩
theorem fits_cmd {h : Heap} {d : Nat} {cs : List V} (hf : Fits X.ty h (d + 3) 28 cs) :
    ∃ o c q f t v l, cs = [.int .i64 o, .int .i64 c, .int .i64 q, .int .i64 f, .int .i64 t, v] /\ In64 o /\ In64 c /\ In64 q /\ In64 f /\ In64 t /\ Strs h v l := by
  unfold Fits at hf
  rw [ty28] at hf
  obtain ⟨hl, hf⟩ := hf
  match cs, hl with
  | [c0, c1, c2, c3, c4, c5], _ =>
    obtain ⟨o, h0, i0⟩ := fits_int (hf (0, 3) (by simp))
    obtain ⟨c, h1, i1⟩ := fits_int (hf (1, 3) (by simp))
    obtain ⟨q, h2, i2⟩ := fits_int (hf (2, 3) (by simp))
    obtain ⟨f, h3, i3⟩ := fits_int (hf (3, 3) (by simp))
    obtain ⟨t, h4, i4⟩ := fits_int (hf (4, 3) (by simp))
    obtain ⟨v, l, h5, i5⟩ := fits_strs (hf (5, 26) (by simp))
    simp [ty3] at h0 h1 h2 h3 h4
    simp [ty26] at h5
    subst h0 h1 h2 h3 h4 h5
    exact ⟨o, c, q, f, t, _, l, rfl, i0, i1, i2, i3, i4, i5⟩
end Go.Ev
namespace Go.Ev
theorem G103 : (type_of% @ty3) /\ (type_of% @ty5) /\ (type_of% @ty9) /\ (type_of% @ty99) /\ (type_of% @slot103) := ⟨@ty3, @ty5, @ty9, @ty99, @slot103⟩
theorem G85 : (type_of% @ty5) /\ (type_of% @ty67) /\ (type_of% @ty69) /\ (type_of% @ty70) /\ (type_of% @slot85) := ⟨@ty5, @ty67, @ty69, @ty70, @slot85⟩
theorem G86 : (type_of% @ty3) /\ (type_of% @ty5) /\ (type_of% @ty67) /\ (type_of% @ty69) /\ (type_of% @ty70) /\ (type_of% @ty99) /\ (type_of% @slot86) /\ (type_of% @plan86_3) := ⟨@ty3, @ty5, @ty67, @ty69, @ty70, @ty99, @slot86, @plan86_3⟩
theorem G60 : (type_of% @ty2) /\ (type_of% @ty5) /\ (type_of% @ty67) /\ (type_of% @ty69) /\ (type_of% @ty70) /\ (type_of% @ty72) /\ (type_of% @ty99) /\ (type_of% @slot60) := ⟨@ty2, @ty5, @ty67, @ty69, @ty70, @ty72, @ty99, @slot60⟩
theorem G61 : (type_of% @ty5) /\ (type_of% @ty67) /\ (type_of% @ty69) /\ (type_of% @ty70) /\ (type_of% @ty72) /\ (type_of% @slot61) := ⟨@ty5, @ty67, @ty69, @ty70, @ty72, @slot61⟩
theorem G88 : (type_of% @ty3) /\ (type_of% @ty5) /\ (type_of% @ty9) /\ (type_of% @ty67) /\ (type_of% @ty69) /\ (type_of% @ty70) /\ (type_of% @ty72) /\ (type_of% @ty99) /\ (type_of% @slot88) := ⟨@ty3, @ty5, @ty9, @ty67, @ty69, @ty70, @ty72, @ty99, @slot88⟩
theorem G64 : (type_of% @ty2) /\ (type_of% @ty3) /\ (type_of% @ty5) /\ (type_of% @ty22) /\ (type_of% @ty23) /\ (type_of% @ty67) /\ (type_of% @ty69) /\ (type_of% @ty70) /\ (type_of% @ty72) /\ (type_of% @slot64) := ⟨@ty2, @ty3, @ty5, @ty22, @ty23, @ty67, @ty69, @ty70, @ty72, @slot64⟩
theorem G63 : (type_of% @ty3) /\ (type_of% @ty5) /\ (type_of% @ty22) /\ (type_of% @ty23) /\ (type_of% @ty29) /\ (type_of% @ty67) /\ (type_of% @ty69) /\ (type_of% @ty70) /\ (type_of% @ty72) /\ (type_of% @ty99) /\ (type_of% @slot63) := ⟨@ty3, @ty5, @ty22, @ty23, @ty29, @ty67, @ty69, @ty70, @ty72, @ty99, @slot63⟩
theorem G87 : (type_of% @ty3) /\ (type_of% @ty5) /\ (type_of% @ty9) /\ (type_of% @ty26) /\ (type_of% @ty67) /\ (type_of% @ty69) /\ (type_of% @ty70) /\ (type_of% @ty72) /\ (type_of% @ty99) /\ (type_of% @slot87) := ⟨@ty3, @ty5, @ty9, @ty26, @ty67, @ty69, @ty70, @ty72, @ty99, @slot87⟩
theorem G62 : (type_of% @ty2) /\ (type_of% @ty3) /\ (type_of% @ty5) /\ (type_of% @ty9) /\ (type_of% @ty26) /\ (type_of% @ty27) /\ (type_of% @ty28) /\ (type_of% @ty67) /\ (type_of% @ty69) /\ (type_of% @ty70) /\ (type_of% @ty72) /\ (type_of% @ty90) /\ (type_of% @ty119) /\ (type_of% @slot62) := ⟨@ty2, @ty3, @ty5, @ty9, @ty26, @ty27, @ty28, @ty67, @ty69, @ty70, @ty72, @ty90, @ty119, @slot62⟩
theorem G29 : (type_of% @ty3) /\ (type_of% @ty22) /\ (type_of% @ty23) /\ (type_of% @ty29) /\ (type_of% @slot29) /\ (type_of% @plan29_6) := ⟨@ty3, @ty22, @ty23, @ty29, @slot29, @plan29_6⟩
theorem G50 : (type_of% @ty3) /\ (type_of% @ty9) /\ (type_of% @ty26) /\ (type_of% @ty27) /\ (type_of% @ty28) /\ (type_of% @slot50) /\ (type_of% @plan50_6) := ⟨@ty3, @ty9, @ty26, @ty27, @ty28, @slot50, @plan50_6⟩
theorem G78 : (type_of% @ty3) /\ (type_of% @ty22) /\ (type_of% @ty23) /\ (type_of% @slot78) := ⟨@ty3, @ty22, @ty23, @slot78⟩
theorem G17 : (type_of% @ty3) /\ (type_of% @ty4) /\ (type_of% @ty9) /\ (type_of% @ty22) /\ (type_of% @ty23) /\ (type_of% @ty24) /\ (type_of% @ty25) /\ (type_of% @ty26) /\ (type_of% @ty27) /\ (type_of% @ty28) /\ (type_of% @ty29) /\ (type_of% @ty30) /\ (type_of% @ty31) /\ (type_of% @slot17) := ⟨@ty3, @ty4, @ty9, @ty22, @ty23, @ty24, @ty25, @ty26, @ty27, @ty28, @ty29, @ty30, @ty31, @slot17⟩
theorem G36 : (type_of% @ty2) /\ (type_of% @ty3) /\ (type_of% @ty4) /\ (type_of% @ty5) /\ (type_of% @ty9) /\ (type_of% @ty22) /\ (type_of% @ty23) /\ (type_of% @ty24) /\ (type_of% @ty25) /\ (type_of% @ty26) /\ (type_of% @ty27) /\ (type_of% @ty28) /\ (type_of% @ty29) /\ (type_of% @ty30) /\ (type_of% @ty31) /\ (type_of% @ty67) /\ (type_of% @ty69) /\ (type_of% @ty70) /\ (type_of% @ty72) /\ (type_of% @ty90) /\ (type_of% @ty95) /\ (type_of% @slot36) := ⟨@ty2, @ty3, @ty4, @ty5, @ty9, @ty22, @ty23, @ty24, @ty25, @ty26, @ty27, @ty28, @ty29, @ty30, @ty31, @ty67, @ty69, @ty70, @ty72, @ty90, @ty95, @slot36⟩
theorem G37 : (type_of% @ty5) /\ (type_of% @ty67) /\ (type_of% @ty69) /\ (type_of% @ty70) /\ (type_of% @slot37) := ⟨@ty5, @ty67, @ty69, @ty70, @slot37⟩
theorem G67 : (type_of% @ty5) /\ (type_of% @ty67) /\ (type_of% @ty99) /\ (type_of% @slot67) := ⟨@ty5, @ty67, @ty99, @slot67⟩
theorem G65 : (type_of% @ty2) /\ (type_of% @ty5) /\ (type_of% @ty67) /\ (type_of% @ty99) /\ (type_of% @slot65) := ⟨@ty2, @ty5, @ty67, @ty99, @slot65⟩
theorem G89 : (type_of% @ty3) /\ (type_of% @ty5) /\ (type_of% @ty9) /\ (type_of% @ty67) /\ (type_of% @ty99) /\ (type_of% @slot89) := ⟨@ty3, @ty5, @ty9, @ty67, @ty99, @slot89⟩
theorem G66 : (type_of% @ty2) /\ (type_of% @ty3) /\ (type_of% @ty5) /\ (type_of% @ty9) /\ (type_of% @ty26) /\ (type_of% @ty27) /\ (type_of% @ty28) /\ (type_of% @ty67) /\ (type_of% @ty90) /\ (type_of% @ty99) /\ (type_of% @slot66) := ⟨@ty2, @ty3, @ty5, @ty9, @ty26, @ty27, @ty28, @ty67, @ty90, @ty99, @slot66⟩
theorem G38 : (type_of% @ty2) /\ (type_of% @ty3) /\ (type_of% @ty4) /\ (type_of% @ty5) /\ (type_of% @ty9) /\ (type_of% @ty22) /\ (type_of% @ty23) /\ (type_of% @ty24) /\ (type_of% @ty25) /\ (type_of% @ty26) /\ (type_of% @ty27) /\ (type_of% @ty28) /\ (type_of% @ty29) /\ (type_of% @ty30) /\ (type_of% @ty31) /\ (type_of% @ty67) /\ (type_of% @ty90) /\ (type_of% @ty99) /\ (type_of% @slot38) := ⟨@ty2, @ty3, @ty4, @ty5, @ty9, @ty22, @ty23, @ty24, @ty25, @ty26, @ty27, @ty28, @ty29, @ty30, @ty31, @ty67, @ty90, @ty99, @slot38⟩
theorem G42 : (type_of% @ty3) /\ (type_of% @ty4) /\ (type_of% @ty5) /\ (type_of% @ty67) /\ (type_of% @ty75) /\ (type_of% @ty100) /\ (type_of% @ty101) /\ (type_of% @slot42) := ⟨@ty3, @ty4, @ty5, @ty67, @ty75, @ty100, @ty101, @slot42⟩
theorem G41 : (type_of% @ty3) /\ (type_of% @ty4) /\ (type_of% @ty5) /\ (type_of% @ty67) /\ (type_of% @ty75) /\ (type_of% @ty100) /\ (type_of% @ty101) /\ (type_of% @slot41) /\ (type_of% @plan41_3) := ⟨@ty3, @ty4, @ty5, @ty67, @ty75, @ty100, @ty101, @slot41, @plan41_3⟩
theorem G92 : (type_of% @ty3) /\ (type_of% @ty4) /\ (type_of% @ty5) /\ (type_of% @ty67) /\ (type_of% @ty75) /\ (type_of% @ty100) /\ (type_of% @ty101) /\ (type_of% @slot92) := ⟨@ty3, @ty4, @ty5, @ty67, @ty75, @ty100, @ty101, @slot92⟩
theorem G90 : (type_of% @ty3) /\ (type_of% @ty4) /\ (type_of% @ty5) /\ (type_of% @ty67) /\ (type_of% @ty75) /\ (type_of% @ty100) /\ (type_of% @ty101) /\ (type_of% @slot90) /\ (type_of% @plan90_5) := ⟨@ty3, @ty4, @ty5, @ty67, @ty75, @ty100, @ty101, @slot90, @plan90_5⟩
theorem G91 : (type_of% @ty3) /\ (type_of% @ty4) /\ (type_of% @ty5) /\ (type_of% @ty67) /\ (type_of% @ty75) /\ (type_of% @ty99) /\ (type_of% @ty100) /\ (type_of% @ty101) /\ (type_of% @slot91) := ⟨@ty3, @ty4, @ty5, @ty67, @ty75, @ty99, @ty100, @ty101, @slot91⟩
theorem G68 : (type_of% @ty2) /\ (type_of% @ty3) /\ (type_of% @ty4) /\ (type_of% @ty5) /\ (type_of% @ty67) /\ (type_of% @ty75) /\ (type_of% @ty99) /\ (type_of% @ty100) /\ (type_of% @ty101) /\ (type_of% @slot68) := ⟨@ty2, @ty3, @ty4, @ty5, @ty67, @ty75, @ty99, @ty100, @ty101, @slot68⟩
theorem G69 : (type_of% @ty3) /\ (type_of% @ty4) /\ (type_of% @ty5) /\ (type_of% @ty67) /\ (type_of% @ty75) /\ (type_of% @ty100) /\ (type_of% @ty101) /\ (type_of% @slot69) := ⟨@ty3, @ty4, @ty5, @ty67, @ty75, @ty100, @ty101, @slot69⟩
theorem G94 : (type_of% @ty3) /\ (type_of% @ty4) /\ (type_of% @ty5) /\ (type_of% @ty9) /\ (type_of% @ty67) /\ (type_of% @ty75) /\ (type_of% @ty99) /\ (type_of% @ty100) /\ (type_of% @ty101) /\ (type_of% @slot94) /\ (type_of% @plan94_8) := ⟨@ty3, @ty4, @ty5, @ty9, @ty67, @ty75, @ty99, @ty100, @ty101, @slot94, @plan94_8⟩
theorem G72 : (type_of% @ty3) /\ (type_of% @ty4) /\ (type_of% @ty5) /\ (type_of% @ty22) /\ (type_of% @ty23) /\ (type_of% @ty67) /\ (type_of% @ty75) /\ (type_of% @ty100) /\ (type_of% @ty101) /\ (type_of% @slot72) := ⟨@ty3, @ty4, @ty5, @ty22, @ty23, @ty67, @ty75, @ty100, @ty101, @slot72⟩
theorem G93 : (type_of% @ty3) /\ (type_of% @ty4) /\ (type_of% @ty5) /\ (type_of% @ty9) /\ (type_of% @ty26) /\ (type_of% @ty67) /\ (type_of% @ty75) /\ (type_of% @ty99) /\ (type_of% @ty100) /\ (type_of% @ty101) /\ (type_of% @slot93) := ⟨@ty3, @ty4, @ty5, @ty9, @ty26, @ty67, @ty75, @ty99, @ty100, @ty101, @slot93⟩
theorem G70 : (type_of% @ty3) /\ (type_of% @ty4) /\ (type_of% @ty5) /\ (type_of% @ty9) /\ (type_of% @ty26) /\ (type_of% @ty27) /\ (type_of% @ty28) /\ (type_of% @ty67) /\ (type_of% @ty75) /\ (type_of% @ty100) /\ (type_of% @ty101) /\ (type_of% @ty102) /\ (type_of% @ty103) /\ (type_of% @ty125) /\ (type_of% @slot70) := ⟨@ty3, @ty4, @ty5, @ty9, @ty26, @ty27, @ty28, @ty67, @ty75, @ty100, @ty101, @ty102, @ty103, @ty125, @slot70⟩
theorem G71 : (type_of% @ty3) /\ (type_of% @ty4) /\ (type_of% @ty5) /\ (type_of% @ty22) /\ (type_of% @ty23) /\ (type_of% @ty29) /\ (type_of% @ty67) /\ (type_of% @ty75) /\ (type_of% @ty99) /\ (type_of% @ty100) /\ (type_of% @ty101) /\ (type_of% @slot71) := ⟨@ty3, @ty4, @ty5, @ty22, @ty23, @ty29, @ty67, @ty75, @ty99, @ty100, @ty101, @slot71⟩
theorem G40 : (type_of% @ty3) /\ (type_of% @ty4) /\ (type_of% @ty5) /\ (type_of% @ty9) /\ (type_of% @ty22) /\ (type_of% @ty23) /\ (type_of% @ty24) /\ (type_of% @ty25) /\ (type_of% @ty26) /\ (type_of% @ty27) /\ (type_of% @ty28) /\ (type_of% @ty29) /\ (type_of% @ty30) /\ (type_of% @ty31) /\ (type_of% @ty67) /\ (type_of% @ty75) /\ (type_of% @ty100) /\ (type_of% @ty101) /\ (type_of% @ty102) /\ (type_of% @ty103) /\ (type_of% @ty107) /\ (type_of% @slot40) := ⟨@ty3, @ty4, @ty5, @ty9, @ty22, @ty23, @ty24, @ty25, @ty26, @ty27, @ty28, @ty29, @ty30, @ty31, @ty67, @ty75, @ty100, @ty101, @ty102, @ty103, @ty107, @slot40⟩
theorem G39 : (type_of% @ty3) /\ (type_of% @ty4) /\ (type_of% @ty5) /\ (type_of% @ty67) /\ (type_of% @ty100) /\ (type_of% @ty101) /\ (type_of% @slot39) := ⟨@ty3, @ty4, @ty5, @ty67, @ty100, @ty101, @slot39⟩
theorem G12 : (type_of% @ty3) /\ (type_of% @ty4) /\ (type_of% @ty9) /\ (type_of% @ty22) /\ (type_of% @ty23) /\ (type_of% @ty24) /\ (type_of% @ty25) /\ (type_of% @ty26) /\ (type_of% @ty27) /\ (type_of% @ty28) /\ (type_of% @ty29) /\ (type_of% @ty30) /\ (type_of% @ty31) /\ (type_of% @slot12) := ⟨@ty3, @ty4, @ty9, @ty22, @ty23, @ty24, @ty25, @ty26, @ty27, @ty28, @ty29, @ty30, @ty31, @slot12⟩
theorem G11 : (type_of% @ty3) /\ (type_of% @ty4) /\ (type_of% @ty5) /\ (type_of% @ty9) /\ (type_of% @ty22) /\ (type_of% @ty23) /\ (type_of% @ty24) /\ (type_of% @ty25) /\ (type_of% @ty26) /\ (type_of% @ty27) /\ (type_of% @ty28) /\ (type_of% @ty29) /\ (type_of% @ty30) /\ (type_of% @ty31) /\ (type_of% @ty67) /\ (type_of% @ty68) /\ (type_of% @ty69) /\ (type_of% @ty70) /\ (type_of% @ty72) /\ (type_of% @ty75) /\ (type_of% @ty100) /\ (type_of% @ty101) /\ (type_of% @slot11) /\ (type_of% @plan11_7) := ⟨@ty3, @ty4, @ty5, @ty9, @ty22, @ty23, @ty24, @ty25, @ty26, @ty27, @ty28, @ty29, @ty30, @ty31, @ty67, @ty68, @ty69, @ty70, @ty72, @ty75, @ty100, @ty101, @slot11, @plan11_7⟩
end Go.Ev
set_option maxRecDepth 100000
namespace Go.Ev
open Go.Ev renaming exPure -> Ja, ofValue -> Jb, cellsV -> Jc, load -> Jd, store -> Je, binOp -> Jf, intOp -> Jg, rdV -> Jh, vsame -> Ji, vsames -> Jj, makeSliceV -> Jk, resV -> Jl, isCell -> Jm, nilCheckV -> Jn, allV -> Jo, builtinV -> Jp, lenV -> Jq, indexAddrV -> Jr, unOp -> Js, minmaxV -> Jt, minmax -> Ju, sliceV -> Jv, asInt -> Jw, appendV -> Jx, forkB -> Jy, roY -> Jz, rwB -> J0, copyV -> J1, clearV -> J2, convV -> J3, sliceCells -> J4, shift -> J5
open Bool renaming true -> BT, false -> BF
open Nat renaming reduceEqDiff -> J6, reduceLT -> J7, reduceAdd -> J8, reduceBEq -> J9, reduceSub -> JA, reduceMul -> JB, reduceLeDiff -> JJ
open Int renaming reduceLT -> JC, reduceLE -> JD, reduceAdd -> JE, reduceSub -> JF, reduceNeg -> JG, reduceToNat -> JH, reduceEq -> JI
open Go.Proofs
def blen (m : Nat) : Nat := if m = 0 then 0 else Nat.log2 m + 1
def lenTab (S : ByteArray) : Bool := decide (S.size = 256) && (List.range 256).all fun i => decide (S.data.toList[i]? = some (UInt8.ofNat (blen i)))
theorem blen_8 : ((List.range 256).all fun m => decide (m < 2 ^ blen m) && (decide (blen m = 0) || decide (2 ^ (blen m - 1) <= m)) && decide (blen m <= 8)) = true := by decide +kernel
theorem tab_ok {S : ByteArray} (hS : lenTab S = true) {m : Int} (h : 0 <= m /\ m < 256) {R : Type} {k : V -> Option R} {Q : R -> Prop}
    (hk : ∀ c : Int, 0 <= c -> c <= 8 -> m < 2 ^ c.toNat -> (c = 0 \/ 2 ^ (c.toNat - 1) <= m) -> Ev.Ok (k (.int .u8 c)) Q) : Ev.Ok (bnd (indexV X.ty 9 (.v (.str S)) (.v (.int .u8 m))) k) Q := by
  simp only [lenTab,Bool.and_eq_true,decide_eq_true_eq,List.all_eq_true,List.mem_range] at hS
  obtain ⟨h1, h2⟩ := hS
  have h3 := h2 m.toNat (by omega)
  have hb := List.all_eq_true.1 blen_8 m.toNat (List.mem_range.2 (by omega))
  simp only [Bool.and_eq_true,decide_eq_true_eq,Bool.or_eq_true] at hb
  obtain ⟨⟨b1, b2⟩, b3⟩ := hb
  have e : indexV X.ty 9 (.v (.str S)) (.v (.int .u8 m)) = some (.int .u8 (blen m.toNat)) := by
    unfold indexV
    rw [ty9]
    simp only [idx]
    rw [grd_t (by rw [h1]; omega)]
    simp only [bnd_s]
    rw [h3]
    simp only [bnd_s]
    congr 2
    rw [UInt8.toNat_ofNat']
    omega
  rw [e]
  refine hk _ (by omega) (by omega) ?_ ?_
  · rw [Int.toNat_natCast]
    have : (m.toNat : Int) < 2 ^ blen m.toNat := by exact_mod_cast b1
    omega
  · rw [Int.toNat_natCast]
    rcases b2 with b2 | b2
    · left; omega
    · right
      have : (2 : Int) ^ (blen m.toNat - 1) <= m.toNat := by exact_mod_cast b2
      omega
theorem fd32 (a : Int) : a.fdiv (2 ^ min 32 IntKind.u64.bits) = a / 4294967296 := Int.fdiv_eq_ediv_of_nonneg a (by decide)
theorem fd16 (a : Int) : a.fdiv (2 ^ min 16 IntKind.u64.bits) = a / 65536 := Int.fdiv_eq_ediv_of_nonneg a (by decide)
theorem fd8 (a : Int) : a.fdiv (2 ^ min 8 IntKind.u64.bits) = a / 256 := Int.fdiv_eq_ediv_of_nonneg a (by decide)
theorem u8_wrap (x : Int) : IntKind.u8.wrap x = x % 256 := by
  simp only [IntKind.wrap,IntKind.signed,IntKind.bits]
  simp
theorem u8_small {x : Int} (h : 0 <= x /\ x < 256) : IntKind.u8.wrap x = x := by rw [u8_wrap]; omega
def LenOk (n : Int) (L : Int) : Prop := 0 <= L /\ L <= 64 /\ n < 2 ^ L.toNat /\ (L = 0 \/ 2 ^ (L.toNat - 1) <= n)
theorem len_leaf {n : Int} (s : Nat) {q c : Int} (hs : s <= 56) (hq : q = n / 2 ^ s) (h0 : s = 0 \/ 0 < q) (c0 : 0 <= c) (c8 : c <= 8) (b1 : q < 2 ^ c.toNat) (b2 : c = 0 \/ 2 ^ (c.toNat - 1) <= q) : LenOk n ((s : Int) + c) := by
  have hp : (0 : Int) < 2 ^ s := Int.pow_pos (by omega)
  have hd := Int.mul_ediv_add_emod n (2 ^ s)
  have hr0 := Int.emod_nonneg n (by omega : (2 : Int) ^ s ≠ 0)
  have hr1 := Int.emod_lt_of_pos n hp
  rw [<- hq] at hd
  have e1 : ((s : Int) + c).toNat = s + c.toNat := by omega
  refine ⟨by omega, by omega, ?_, ?_⟩
  · rw [e1, Int.pow_add]
    have h1 : q + 1 <= 2 ^ c.toNat := by omega
    have := Int.mul_le_mul_of_nonneg_left h1 (Int.le_of_lt hp)
    rw [Int.mul_add] at this
    omega
  · by_cases hz : c = 0
    · rcases h0 with rfl | h0
      · left; omega
      · subst hz
        simp at b1
        omega
    · right
      have b2' : (2 : Int) ^ (c.toNat - 1) <= q := by rcases b2 with b2 | b2; exact absurd b2 hz; exact b2
      rw [e1, show s + c.toNat - 1 = s + (c.toNat - 1) by omega, Int.pow_add]
      have := Int.mul_le_mul_of_nonneg_left b2' (Int.le_of_lt hp)
      omega
theorem len64_at {n : Int} (h0 : 0 <= n) (h1 : n < 18446744073709551616) (h : Heap) : Ev.Ok (D X (.fn 103 []) [.int .u64 n] h) fun y => ∃ L : Int, y = (.int .i64 L, h) /\ LenOk n L := by
  refine Ok.aim fun Q hQ => ?_
  have hQ' := Hid.mk hQ
  clear hQ
  have hfin : ∀ (s : Nat) (D q c r : Int), D = 2 ^ s -> s <= 56 -> q = n / D -> (s = 0 \/ 0 < q) -> 0 <= c -> c <= 8 -> q < 2 ^ c.toNat -> (c = 0 \/ 2 ^ (c.toNat - 1) <= q) -> r = s + c -> Q (.int .i64 r, h) := by
    intro s D q c r e0 a1 a2 a3 a4 a5 a6 a7 a8
    subst e0 a8
    exact hQ'.out _ ⟨_, rfl, len_leaf s a1 a2 a3 a4 a5 a6 a7⟩
  have hfin' := Hid.mk hfin
  clear hfin
  (refine Ok.body body103 pin103 ?_; simp only [c103,Try.f103,Option.getD_some,nslot103,List.append_nil,List.map,List.replicate,List.length_cons,List.length_nil,Nat.reduceAdd,Nat.reduceSub,List.cons_append,List.nil_append])
  (repeat' (first | (simp -implicitDefEqProofs (maxSteps := 1000000) (disch := first | assumption | omega | (simp only [ZDI]; omega)) only [*,fd32,fd16,fd8,u8_small,G103,Za,Zb,Zc,Zd,Ze,Zf,Zg,Zh,Zi,Zj,Zk,Zl,Zm,Zn,Zo,Ja,Jb,Jc,J6,Jd,Je,J7,J8,Jf,Jg,Jh,Ji,Jj,Jk,J9,Jl,Jm,wr,Jn,JA,JB,Jo,Jp,Jq,Jr,Js,Jt,Ju,Jv,Jw,Jx,Jy,Jz,J0,J1,J2,J3,J4,J5,reduceCtorEq,JC,JD,JE,JF,JG,JH,JI,JJ]) | ((with_reducible (first | apply Ok.br | apply Ok.gd | apply Ok.ld)) <;> (intro g; (try simp only [ZGS] at g); try (exfalso; omega)))))
  all_goals (
    refine tab_ok (by decide +kernel) ⟨by omega, by omega⟩ fun c c0 c8 b1 b2 => ?_
    have hb1 := Hid.mk b1
    have hb2 := Hid.mk b2
    clear b1 b2
    (repeat' (first | (simp -implicitDefEqProofs (maxSteps := 1000000) (disch := first | assumption | omega | (simp only [ZDI]; omega)) only [*,fd32,fd16,fd8,u8_small,G103,Za,Zb,Zc,Zd,Ze,Zf,Zg,Zh,Zi,Zj,Zk,Zl,Zm,Zn,Zo,Ja,Jb,Jc,J6,Jd,Je,J7,J8,Jf,Jg,Jh,Ji,Jj,Jk,J9,Jl,Jm,wr,Jn,JA,JB,Jo,Jp,Jq,Jr,Js,Jt,Ju,Jv,Jw,Jx,Jy,Jz,J0,J1,J2,J3,J4,J5,reduceCtorEq,JC,JD,JE,JF,JG,JH,JI,JJ]) | ((with_reducible (first | apply Ok.br | apply Ok.gd | apply Ok.ld)) <;> (intro g; (try simp only [ZGS] at g); try (exfalso; omega)))))
    first
      | exact hfin'.out 0 1 _ c _ (by decide) (by decide) (by omega) (.inl rfl) c0 c8 hb1.out hb2.out (by omega)
      | exact hfin'.out 8 256 _ c _ (by decide) (by decide) (by omega) (.inr (by omega)) c0 c8 hb1.out hb2.out (by omega)
      | exact hfin'.out 16 65536 _ c _ (by decide) (by decide) (by omega) (.inr (by omega)) c0 c8 hb1.out hb2.out (by omega)
      | exact hfin'.out 24 16777216 _ c _ (by decide) (by decide) (by omega) (.inr (by omega)) c0 c8 hb1.out hb2.out (by omega)
      | exact hfin'.out 32 4294967296 _ c _ (by decide) (by decide) (by omega) (.inr (by omega)) c0 c8 hb1.out hb2.out (by omega)
      | exact hfin'.out 40 1099511627776 _ c _ (by decide) (by decide) (by omega) (.inr (by omega)) c0 c8 hb1.out hb2.out (by omega)
      | exact hfin'.out 48 281474976710656 _ c _ (by decide) (by decide) (by omega) (.inr (by omega)) c0 c8 hb1.out hb2.out (by omega)
      | exact hfin'.out 56 72057594037927936 _ c _ (by decide) (by decide) (by omega) (.inr (by omega)) c0 c8 hb1.out hb2.out (by omega))
end Go.Ev
set_option maxRecDepth 100000
namespace Go.Ev
open Go.Proofs
def bV (l : List UInt8) : List V := l.map fun b => .int .u8 (b.toNat : Nat)
theorem bV_len (l : List UInt8) : (bV l).length = l.length := by simp [bV]
theorem bV_app (l m : List UInt8) : bV (l ++ m) = bV l ++ bV m := by simp [bV]
theorem bV_take (l : List UInt8) : (bV l).take l.length = bV l := List.take_of_length_le (by rw [bV_len]; exact Nat.le_refl _)
theorem bytesV_eq (s : ByteArray) : bytesV s = bV s.data.toList := rfl
def hiE (n : Nat) : List UInt8 := if n = 0 then [] else hiE (n / 128) ++ [UInt8.ofNat (n % 128 + 128)]
termination_by n
decreasing_by omega
def numE (n : Nat) : List UInt8 := hiE (n / 128) ++ [UInt8.ofNat (n % 128)]
def intE (n : Int) : List UInt8 := if n < 0 then 1 :: numE (-n - 1).toNat else 0 :: numE n.toNat
def textE (s : ByteArray) : List UInt8 := numE s.size ++ s.data.toList
def dgE : Nat -> Nat -> List UInt8
  | 0, _ => []
  | j + 1, n => UInt8.ofNat (n / 128 ^ (j + 1) % 128 + 128) :: dgE j n
theorem dgE_snoc : ∀ (j n : Nat), dgE (j + 1) n = dgE j (n / 128) ++ [UInt8.ofNat (n / 128 % 128 + 128)]
  | 0, n => by simp [dgE]
  | j + 1, n => by
    rw [dgE, dgE_snoc j n, dgE, List.cons_append]
    congr 3
    rw [Nat.div_div_eq_div_mul]
    congr 1
    rw [Nat.pow_succ 128 (j + 1), Nat.mul_comm]
theorem hiE_dg : ∀ (j n : Nat), n / 128 < 128 ^ j -> (j = 0 \/ 128 ^ (j - 1) <= n / 128) -> hiE (n / 128) = dgE j n
  | 0, n, h, _ => by
    have : n / 128 = 0 := by simpa using h
    rw [this, hiE, dgE]; rfl
  | j + 1, n, h, h' => by
    have h1 : 128 ^ j <= n / 128 := by simpa using h'
    have h0 : n / 128 ≠ 0 := by have := Nat.pow_pos (n := j) (show 0 < 128 by omega); omega
    rw [hiE, if_neg h0, dgE_snoc]
    congr 1
    refine hiE_dg j (n / 128) ?_ ?_
    · rw [Nat.div_lt_iff_lt_mul (by omega), <- Nat.pow_succ]; exact h
    · cases j with
      | zero => exact .inl rfl
      | succ j =>
        right
        rw [Nat.le_div_iff_mul_le (by omega), Nat.add_sub_cancel, <- Nat.pow_succ]
        exact h1
theorem places {n L : Int} (h0 : 0 <= n) (hL : LenOk n L) : ∃ j : Nat, (if L + 6 < 7 then 7 else L + 6).tdiv 7 = (j : Int) + 1 /\ j <= 9 /\ numE n.toNat = dgE j n.toNat ++ [UInt8.ofNat (n.toNat % 128)] := by
  obtain ⟨l0, l1, l2, l3⟩ := hL
  obtain ⟨m, rfl⟩ : ∃ m : Nat, n = m := ⟨n.toNat, by omega⟩
  obtain ⟨l, rfl⟩ : ∃ l : Nat, L = l := ⟨L.toNat, by omega⟩
  rw [Int.toNat_natCast] at l2 l3 ⊢
  have l2' : m < 2 ^ l := by exact_mod_cast l2
  have l3' : l = 0 \/ 2 ^ (l - 1) <= m := l3.imp (by omega) (fun h => by exact_mod_cast h)
  obtain ⟨j, hj⟩ : ∃ j : Nat, j = (max (l + 6) 7) / 7 - 1 := ⟨_, rfl⟩
  refine ⟨j, ?_, by omega, ?_⟩
  · have e : (if (l : Int) + 6 < 7 then 7 else (l : Int) + 6) = ((max (l + 6) 7 : Nat) : Int) := by split <;> omega
    rw [e, Int.tdiv_eq_ediv_of_nonneg (by omega)]
    omega
  · rw [numE]
    congr 1
    have e7 : ∀ i : Nat, (128 : Nat) ^ i = 2 ^ (7 * i) := fun i => by rw [Nat.pow_mul]
    refine hiE_dg j m ?_ ?_
    · rw [Nat.div_lt_iff_lt_mul (by omega), <- Nat.pow_succ, e7]
      exact Nat.lt_of_lt_of_le l2' (Nat.pow_le_pow_right (by omega) (by omega))
    · by_cases hz : j = 0
      · exact .inl hz
      · right
        rw [Nat.le_div_iff_mul_le (by omega), <- Nat.pow_succ, e7]
        rcases l3' with l3' | l3'
        · omega
        · exact Nat.le_trans (Nat.pow_le_pow_right (by omega) (by omega)) l3'
theorem or128 {a : Int} (h : 0 <= a /\ a < 256) : IntKind.u8.wrap ((BitVec.ofInt IntKind.u8.bits a ||| BitVec.ofInt IntKind.u8.bits 128).toNat : Nat) = a % 128 + 128 := by
  have : ∀ m, m < 256 -> IntKind.u8.wrap ((BitVec.ofInt IntKind.u8.bits (m : Nat) ||| BitVec.ofInt IntKind.u8.bits 128).toNat : Nat) = ((m % 128 + 128 : Nat) : Int) := by decide +kernel
  have := this a.toNat (by omega)
  rw [Int.toNat_of_nonneg h.1] at this
  rw [this]; omega
theorem and127 {a : Int} (h : 0 <= a /\ a < 256) : IntKind.u8.wrap ((BitVec.ofInt IntKind.u8.bits a &&& BitVec.ofInt IntKind.u8.bits 127).toNat : Nat) = a % 128 := by
  have : ∀ m, m < 256 -> IntKind.u8.wrap ((BitVec.ofInt IntKind.u8.bits (m : Nat) &&& BitVec.ofInt IntKind.u8.bits 127).toNat : Nat) = ((m % 128 : Nat) : Int) := by decide +kernel
  have := this a.toNat (by omega)
  rw [Int.toNat_of_nonneg h.1] at this
  rw [this]; omega
theorem byteV {x : Nat} (h : x < 256) : (V.int .u8 x) = V.int .u8 ((UInt8.ofNat x).toNat : Nat) := by
  rw [UInt8.toNat_ofNat']; congr 2; omega
def WrAt (H : Heap) (p : Nat) (ob : Option Nat) (bs : List UInt8) : Prop :=
  match ob with
  | none => hcells H p 0 = some (true, [.sl .nil 0 0 0]) /\ bs = []
  | some b => ∃ g, hcells H p 0 = some (true, [.sl (.at b g 0) bs.length bs.length 1]) /\ hcells H b g = some (true, bV bs) /\ b ≠ p
def WStep (p : Nat) (ob ob' : Option Nat) (H H' : Heap) : Prop := Keeps (p :: ob.toList) H H' /\ (∀ b, ob = some b -> ob' = some b) /\ (ob = none -> ∀ b, ob' = some b -> H.length <= b)
theorem WStep.refl (p : Nat) (ob : Option Nat) (H : Heap) (hn : ob = none -> ∀ b, ob = some b -> H.length <= b := by intro h b e; rw [h] at e; cases e) : WStep p ob ob H H := ⟨.refl _ _, fun _ h => h, hn⟩
theorem WStep.trans {p : Nat} {a b c : Option Nat} {H1 H2 H3 : Heap} (h : WStep p a b H1 H2) (k : WStep p b c H2 H3) : WStep p a c H1 H3 := by
  obtain ⟨h1, h2, h3⟩ := h
  obtain ⟨k1, k2, k3⟩ := k
  refine ⟨h1.wide k1 fun j hj hlt => ?_, fun x e => k2 x (h2 x e), fun e x ex => ?_⟩
  · rcases List.mem_cons.1 hj with rfl | hj
    · simp
    · have e : b = some j := by simpa using hj
      cases a with
      | none => have := h3 rfl j e; omega
      | some y => have := h2 y rfl; rw [e] at this; cases this; simp
  · cases b with
    | none => have := k3 rfl x ex; have := h1.1; omega
    | some y =>
      have := k2 y rfl
      rw [ex] at this; cases this
      exact h3 e x rfl
theorem WStep.blk {p : Nat} {ob ob' : Option Nat} {H H' : Heap} (h : WStep p ob ob' H H') {b : Nat} (e : ob' = some b) : ob = some b \/ H.length <= b := by
  cases ob with
  | none => exact .inr (h.2.2 rfl b e)
  | some y => have := h.2.1 y rfl; rw [e] at this; cases this; exact .inl rfl
theorem wr_new {H : Heap} {p : Nat} (h1 : hcells H p 0 = some (true, [.sl .nil 0 0 0])) {cs : List V} {bs : List UInt8} (e : cs = bV bs) :
    WrAt (H.set p (.cells 0 true [.sl (.at H.length 0 0) bs.length bs.length 1]) ++ [.cells 0 true cs]) p (some H.length) bs /\ WStep p none (some H.length) H (H.set p (.cells 0 true [.sl (.at H.length 0 0) bs.length bs.length 1]) ++ [.cells 0 true cs]) := by
  subst e
  have hp := hcells_lt h1
  refine ⟨⟨0, ?_, ?_, by omega⟩, (Keeps.set (.refl _ _) (.inl (by simp)) _).snoc _, fun b h => (nomatch h), fun _ b h => by cases h; exact Nat.le_refl _⟩
  · rw [hcells_app (by simpa using hp), hcells_set_eq hp]
  · rw [hcells_ge (by simp)]
    simp only [List.length_set,Nat.sub_self]
    exact grd_t rfl _
theorem wr_more {H : Heap} {p b g : Nat} {x : V} {bs0 : List UInt8} (h1 : hcells H p 0 = some (true, [x])) (h2 : hcells H b g = some (true, bV bs0)) (hbp : b ≠ p) {cs : List V} {bs : List UInt8} (e : cs = bV bs) :
    WrAt ((H.set b (.cells (g + 1) true cs)).set p (.cells 0 true [.sl (.at b (g + 1) 0) bs.length bs.length 1])) p (some b) bs /\ WStep p (some b) (some b) H ((H.set b (.cells (g + 1) true cs)).set p (.cells 0 true [.sl (.at b (g + 1) 0) bs.length bs.length 1])) := by
  subst e
  have hp := hcells_lt h1
  have hb := hcells_lt h2
  refine ⟨⟨g + 1, ?_, ?_, hbp⟩, (Keeps.set (.refl _ _) (.inl (by simp)) _).set (.inl (by simp)) _, fun b h => h, fun h => (nomatch h)⟩
  · exact hcells_set_eq (by simpa using hp)
  · rw [hcells_set_ne hbp, hcells_set_eq hb]
end Go.Ev
set_option maxRecDepth 100000
namespace Go.Ev
open Go.Ev renaming exPure -> Ja, ofValue -> Jb, cellsV -> Jc, load -> Jd, store -> Je, binOp -> Jf, intOp -> Jg, rdV -> Jh, vsame -> Ji, vsames -> Jj, makeSliceV -> Jk, resV -> Jl, isCell -> Jm, nilCheckV -> Jn, allV -> Jo, builtinV -> Jp, lenV -> Jq, indexAddrV -> Jr, unOp -> Js, minmaxV -> Jt, minmax -> Ju, sliceV -> Jv, asInt -> Jw, appendV -> Jx, forkB -> Jy, roY -> Jz, rwB -> J0, copyV -> J1, clearV -> J2, convV -> J3, sliceCells -> J4, shift -> J5
open Bool renaming true -> BT, false -> BF
open Nat renaming reduceEqDiff -> J6, reduceLT -> J7, reduceAdd -> J8, reduceBEq -> J9, reduceSub -> JA, reduceMul -> JB, reduceLeDiff -> JJ
open Int renaming reduceLT -> JC, reduceLE -> JD, reduceAdd -> JE, reduceSub -> JF, reduceNeg -> JG, reduceToNat -> JH, reduceEq -> JI
open Go.Proofs
def Wrote (p : Nat) (ob : Option Nat) (bs : List UInt8) (H : Heap) (y : V × Heap) : Prop := ∃ H' ob', y = (.tup [], H') /\ WrAt H' p ob' bs /\ WStep p ob ob' H H'
theorem wByte_at {H : Heap} {p : Nat} {ob : Option Nat} {bs : List UInt8} (hw : WrAt H p ob bs) {c : Int} (hc : 0 <= c /\ c < 256) (hl : bs.length < 35184372088832) :
    Ev.Ok (D X (.fn 85 []) [.ptr p 0 0, .int .u8 c] H) (Wrote p ob (bs ++ [UInt8.ofNat c.toNat]) H) := by
  refine Ok.aim fun Q hQ => ?_
  have hQ' := Hid.mk hQ
  clear hQ
  obtain ⟨m, rfl⟩ : ∃ m : Nat, c = m := ⟨c.toNat, by omega⟩
  rw [Int.toNat_natCast] at hQ'
  have hbyte := byteV (show m < 256 by omega)
  have hbyte' := Hid.mk hbyte
  clear hbyte
  cases ob with
  | none =>
    obtain ⟨h1, rfl⟩ := hw
    have hp := hcells_lt h1
    have h1' := Hid.mk h1
    (refine Ok.body body85 pin85 ?_; simp only [c85,Try.f85,Option.getD_some,nslot85,List.append_nil,List.map,List.replicate,List.length_cons,List.length_nil,Nat.reduceAdd,Nat.reduceSub,List.cons_append,List.nil_append])
    (repeat' (first | (simp -implicitDefEqProofs (maxSteps := 1000000) (disch := first | assumption | omega | (simp only [ZDI]; omega)) only [*,G85,Za,Zb,Zc,Zd,Ze,Zf,Zg,Zh,Zi,Zj,Zk,Zl,Zm,Zn,Zo,Ja,Jb,Jc,J6,Jd,Je,J7,J8,Jf,Jg,Jh,Ji,Jj,Jk,J9,Jl,Jm,wr,Jn,JA,JB,Jo,Jp,Jq,Jr,Js,Jt,Ju,Jv,Jw,Jx,Jy,Jz,J0,J1,J2,J3,J4,J5,reduceCtorEq,JC,JD,JE,JF,JG,JH,JI,JJ]) | ((with_reducible (first | apply Ok.br | apply Ok.gd | apply Ok.ld)) <;> (intro g; (try simp only [ZGS] at g); try (exfalso; omega)))))
    obtain ⟨k1, k2⟩ := wr_new h1'.out (cs := [.int .u8 (m : Nat)]) (bs := [UInt8.ofNat m]) (by rw [hbyte'.out]; rfl)
    exact hQ'.out _ ⟨_, _, rfl, k1, k2⟩
  | some b =>
    obtain ⟨g, h1, h2, hbp⟩ := hw
    have hp := hcells_lt h1
    have hb := hcells_lt h2
    have h1' := Hid.mk h1
    have h2' := Hid.mk h2
    have hpb := Ne.symm hbp
    have ht := bV_take bs
    have hle : bs.length <= (bV bs).length := by rw [bV_len]; exact Nat.le_refl _
    have hn1 : ¬ (bs.length + 1 <= bs.length) := by omega
    have hL : (bs.length + 1) * 1 <= 35184372088832 /\ bs.length + 1 <= 35184372088832 := by omega
    (refine Ok.body body85 pin85 ?_; simp only [c85,Try.f85,Option.getD_some,nslot85,List.append_nil,List.map,List.replicate,List.length_cons,List.length_nil,Nat.reduceAdd,Nat.reduceSub,List.cons_append,List.nil_append])
    (repeat' (first | (simp -implicitDefEqProofs (maxSteps := 1000000) (disch := first | assumption | omega | (simp only [ZDI]; omega)) only [*,lenV,List.drop_zero,Nat.zero_add,Nat.mul_one,G85,Za,Zb,Zc,Zd,Ze,Zf,Zg,Zh,Zi,Zj,Zk,Zl,Zm,Zn,Zo,Ja,Jb,Jc,J6,Jd,Je,J7,J8,Jf,Jg,Jh,Ji,Jj,Jk,J9,Jl,Jm,wr,Jn,JA,JB,Jo,Jp,Jq,Jr,Js,Jt,Ju,Jv,Jw,Jx,Jy,Jz,J0,J1,J2,J3,J4,J5,reduceCtorEq,JC,JD,JE,JF,JG,JH,JI,JJ]) | ((with_reducible (first | apply Ok.br | apply Ok.gd | apply Ok.ld)) <;> (intro g; (try simp only [ZGS] at g); try (exfalso; omega)))))
    obtain ⟨k1, k2⟩ := wr_more h1'.out h2'.out hbp (cs := bV bs ++ [.int .u8 (m : Nat)]) (bs := bs ++ [UInt8.ofNat m]) (by rw [bV_app, hbyte'.out]; rfl)
    simp only [List.length_append,List.length_cons,List.length_nil,Nat.zero_add] at k1 k2
    exact hQ'.out _ ⟨_, _, rfl, k1, k2⟩
end Go.Ev
set_option maxRecDepth 100000
namespace Go.Ev
open Go.Ev renaming exPure -> Ja, ofValue -> Jb, cellsV -> Jc, load -> Jd, store -> Je, binOp -> Jf, intOp -> Jg, rdV -> Jh, vsame -> Ji, vsames -> Jj, makeSliceV -> Jk, resV -> Jl, isCell -> Jm, nilCheckV -> Jn, allV -> Jo, builtinV -> Jp, lenV -> Jq, indexAddrV -> Jr, unOp -> Js, minmaxV -> Jt, minmax -> Ju, sliceV -> Jv, asInt -> Jw, appendV -> Jx, forkB -> Jy, roY -> Jz, rwB -> J0, copyV -> J1, clearV -> J2, convV -> J3, sliceCells -> J4, shift -> J5
open Bool renaming true -> BT, false -> BF
open Nat renaming reduceEqDiff -> J6, reduceLT -> J7, reduceAdd -> J8, reduceBEq -> J9, reduceSub -> JA, reduceMul -> JB, reduceLeDiff -> JJ
open Int renaming reduceLT -> JC, reduceLE -> JD, reduceAdd -> JE, reduceSub -> JF, reduceNeg -> JG, reduceToNat -> JH, reduceEq -> JI
open Go.Proofs
theorem dgE_len : ∀ j n, (dgE j n).length = j
  | 0, _ => rfl
  | j + 1, n => by rw [dgE, List.length_cons, dgE_len j n]
theorem wrap8 (q : Nat) : IntKind.u8.wrap ((q : Nat) : Int) = ((q % 256 : Nat) : Int) := by
  unfold IntKind.wrap
  simp [IntKind.bits, IntKind.signed]
theorem dig_at {m i : Nat} (hi : i + 1 <= 9) : V.int .u8 (IntKind.u8.wrap (BitVec.ofInt IntKind.u8.bits (IntKind.u8.wrap ((m : Int).fdiv (2 ^ min (7 * (i + 1)) IntKind.u64.bits))) ||| BitVec.ofInt IntKind.u8.bits 128).toNat) = V.int .u8 ((UInt8.ofNat (m / 128 ^ (i + 1) % 128 + 128)).toNat : Nat) := by
  have h1 : min (7 * (i + 1)) IntKind.u64.bits = 7 * (i + 1) := Nat.min_eq_left (by show 7 * (i + 1) <= 64; omega)
  have h2 : (m : Int).fdiv (2 ^ (7 * (i + 1))) = ((m / 128 ^ (i + 1) : Nat) : Int) := by
    have : (2 : Int) ^ (7 * (i + 1)) = ((128 ^ (i + 1) : Nat) : Int) := by rw [show (128 : Nat) ^ (i + 1) = 2 ^ (7 * (i + 1)) by rw [Nat.pow_mul]]; exact (Int.natCast_pow 2 _).symm
    rw [this, Int.fdiv_eq_ediv_of_nonneg _ (Int.natCast_nonneg _)]
    exact (Int.natCast_ediv m _).symm
  rw [h1, h2, wrap8 (m / 128 ^ (i + 1)), or128 (by omega), <- byteV (by omega)]
  congr 1
  omega
theorem low_at {m : Nat} : V.int .u8 (IntKind.u8.wrap (BitVec.ofInt IntKind.u8.bits (IntKind.u8.wrap (m : Int)) &&& BitVec.ofInt IntKind.u8.bits 127).toNat) = V.int .u8 ((UInt8.ofNat (m % 128)).toNat : Nat) := by
  rw [wrap8 m, and127 (by omega), <- byteV (by omega)]
  congr 1
  omega
set_option maxHeartbeats 4000000 in
theorem wNum_at {H : Heap} {p : Nat} {ob : Option Nat} {bs : List UInt8} (hw : WrAt H p ob bs) {c : Int} (hc : 0 <= c /\ c < 18446744073709551616) (hl : bs.length + 20 < 35184372088832) :
    Ev.Ok (D X (.fn 86 []) [.ptr p 0 0, .int .u64 c] H) (Wrote p ob (bs ++ numE c.toNat) H) := by
  refine Ok.aim fun Q hQ => ?_
  have hQ' := Hid.mk hQ
  clear hQ
  obtain ⟨yy, hlen, L, rfl, hLo⟩ := len64_at hc.1 hc.2 H
  obtain ⟨j, hj, hj9, hnum⟩ := places hc.1 hLo
  obtain ⟨l0, l1, _⟩ := hLo
  (refine Ok.body body86 pin86 ?_; simp only [c86,Try.f86,Option.getD_some,nslot86,List.append_nil,List.map,List.replicate,List.length_cons,List.length_nil,Nat.reduceAdd,Nat.reduceSub,List.cons_append,List.nil_append])
  (repeat' (first | (simp -implicitDefEqProofs (maxSteps := 1000000) (disch := first | assumption | omega | (simp only [ZDI]; omega)) only [*,minmaxV,minmax,G86,Za,Zb,Zc,Zd,Ze,Zf,Zg,Zh,Zi,Zj,Zk,Zl,Zm,Zn,Zo,Ja,Jb,Jc,J6,Jd,Je,J7,J8,Jf,Jg,Jh,Ji,Jj,Jk,J9,Jl,Jm,wr,Jn,JA,JB,Jo,Jp,Jq,Jr,Js,Jt,Ju,Jv,Jw,Jx,Jy,Jz,J0,J1,J2,J3,J4,J5,reduceCtorEq,JC,JD,JE,JF,JG,JH,JI,JJ]) | ((with_reducible (first | apply Ok.br | apply Ok.gd | apply Ok.ld)) <;> (intro g; (try simp only [ZGS] at g); try (exfalso; omega)))))
  clear hlen hj
  refine Ok.loop [BF, BF, BF, BF, BT, BF, BF, BF, BF, BF, BT, BT, BT, BT, BT, BT, BT, BT, BT, BT, BT, BT, BT, BT, BT, BT, BT, BT, BT, BT, BF, BF, BF, BF, BF, BF, BF, BF, BF, BF, BF, BF] (fun n s2 => ∃ (k : Nat) (done : List UInt8) (ob' : Option Nat) (y1 y2 : Nat × List V), n = k /\ 1 <= k /\ k <= j + 1 /\ tv s2.e 4 = .v (.int .i64 k) /\ s2.l = [y1, y2] /\ WrAt s2.h p ob' (bs ++ done) /\ WStep p ob ob' H s2.h /\ done ++ dgE (k - 1) c.toNat = dgE j c.toNat)
    (fun y s2 => y = .exit 0 /\ ∃ (ob' : Option Nat) (y1 y2 : Nat × List V), s2.l = [y1, y2] /\ WrAt s2.h p ob' (bs ++ dgE j c.toNat) /\ WStep p ob ob' H s2.h) (j + 1) ⟨j + 1, [], ob, _, _, rfl, by omega, Nat.le_refl _, rfl, rfl, by simpa using hw, WStep.refl _ _ _, rfl⟩ ?_ ?_
  · intro n ⟨e', l', g⟩ hW ⟨k, done, ob', y1, y2, hm, hk1, hk2, h4, k2, hw2, hst, hdg⟩
    dsimp only at hW h4 k2 hw2 hst
    subst l'
    rw [hW.spread]
    simp only [spread_t,spread_f,spread_n,Nat.zero_add,Nat.reduceAdd,h4]
    clear hW hQ'
    by_cases hgt : 1 < k
    · have hgt' : (1 : Int) < (k : Int) := by omega
      obtain ⟨i, rfl⟩ : ∃ i, k = i + 2 := ⟨k - 2, by omega⟩
      have hi1 : ((i + 2 : Nat) : Int) - 1 = ((i + 1 : Nat) : Int) := by omega
      have hi2 : (7 : Int) * ((i + 1 : Nat) : Int) = ((7 * (i + 1) : Nat) : Int) := by omega
      have hB : Hid (V.int .u8 (IntKind.u8.wrap (BitVec.ofInt IntKind.u8.bits (IntKind.u8.wrap ((c : Int).fdiv (2 ^ min (7 * (i + 1)) IntKind.u64.bits))) ||| BitVec.ofInt IntKind.u8.bits 128).toNat) = V.int .u8 ((UInt8.ofNat (c.toNat / 128 ^ (i + 1) % 128 + 128)).toNat : Nat)) := ⟨by
        have := dig_at (m := c.toNat) (i := i) (by omega)
        rwa [Int.toNat_of_nonneg hc.1] at this⟩
      have hdg' : Hid (done ++ [UInt8.ofNat (c.toNat / 128 ^ (i + 1) % 128 + 128)] ++ dgE (i + 1 - 1) c.toNat = dgE j c.toNat) := ⟨by rw [<- hdg, List.append_assoc]; rfl⟩
      cases ob' with
      | none =>
        obtain ⟨h1, h2⟩ := hw2
        have hp := hcells_lt h1
        have hst' := Hid.mk hst
        clear hst
        (repeat' (first | (simp -implicitDefEqProofs (maxSteps := 1000000) (disch := first | assumption | omega | (simp only [ZDI]; omega)) only [*,minmaxV,minmax,G86,Za,Zb,Zc,Zd,Ze,Zf,Zg,Zh,Zi,Zj,Zk,Zl,Zm,Zn,Zo,Ja,Jb,Jc,J6,Jd,Je,J7,J8,Jf,Jg,Jh,Ji,Jj,Jk,J9,Jl,Jm,wr,Jn,JA,JB,Jo,Jp,Jq,Jr,Js,Jt,Ju,Jv,Jw,Jx,Jy,Jz,J0,J1,J2,J3,J4,J5,reduceCtorEq,JC,JD,JE,JF,JG,JH,JI,JJ]) | ((with_reducible (first | apply Ok.br | apply Ok.gd | apply Ok.ld)) <;> (intro g; (try simp only [ZGS] at g); try (exfalso; omega)))))
        obtain ⟨k1, k2⟩ := wr_new h1 (cs := [V.int .u8 (IntKind.u8.wrap (BitVec.ofInt IntKind.u8.bits (IntKind.u8.wrap ((c : Int).fdiv (2 ^ min (7 * (i + 1)) IntKind.u64.bits))) ||| BitVec.ofInt IntKind.u8.bits 128).toNat)]) (bs := [UInt8.ofNat (c.toNat / 128 ^ (i + 1) % 128 + 128)]) (hB.out ▸ rfl)
        exact Turn.next (i + 1) (by omega) ⟨rfl, i + 1, done ++ [UInt8.ofNat (c.toNat / 128 ^ (i + 1) % 128 + 128)], some g.length, _, _, rfl, by omega, by omega, rfl, rfl, by rw [<- List.append_assoc, h2]; exact k1, hst'.out.trans k2, hdg'.out⟩
      | some b =>
        obtain ⟨g', h1, h2, hbp⟩ := hw2
        have hp := hcells_lt h1
        have hb := hcells_lt h2
        have hst' := Hid.mk hst
        have hpb := Ne.symm hbp
        have h1' := Hid.mk h1
        have h2' := Hid.mk h2
        obtain ⟨bd, hbd⟩ : ∃ bd, bs ++ done = bd := ⟨_, rfl⟩
        have hbl : bd.length <= bs.length + 10 := by
          rw [<- hbd, List.length_append]
          have := congrArg List.length hdg
          rw [List.length_append, dgE_len, dgE_len] at this
          omega
        rw [hbd] at h1 h2 h1' h2'
        have ht := bV_take bd
        have hle : bd.length <= (bV bd).length := by rw [bV_len]; exact Nat.le_refl _
        have hn1 : ¬ (bd.length + 1 <= bd.length) := by omega
        have hL : (bd.length + 1) * 1 <= 35184372088832 /\ bd.length + 1 <= 35184372088832 := by omega
        clear hst hdg
        (repeat' (first | (simp -implicitDefEqProofs (maxSteps := 1000000) (disch := first | assumption | omega | (simp only [ZDI]; omega)) only [*,minmaxV,minmax,lenV,List.drop_zero,Nat.zero_add,Nat.mul_one,G86,Za,Zb,Zc,Zd,Ze,Zf,Zg,Zh,Zi,Zj,Zk,Zl,Zm,Zn,Zo,Ja,Jb,Jc,J6,Jd,Je,J7,J8,Jf,Jg,Jh,Ji,Jj,Jk,J9,Jl,Jm,wr,Jn,JA,JB,Jo,Jp,Jq,Jr,Js,Jt,Ju,Jv,Jw,Jx,Jy,Jz,J0,J1,J2,J3,J4,J5,reduceCtorEq,JC,JD,JE,JF,JG,JH,JI,JJ]) | ((with_reducible (first | apply Ok.br | apply Ok.gd | apply Ok.ld)) <;> (intro g; (try simp only [ZGS] at g); try (exfalso; omega)))))
        obtain ⟨k1, k2⟩ := wr_more h1'.out h2'.out hbp (cs := bV bd ++ [V.int .u8 (IntKind.u8.wrap (BitVec.ofInt IntKind.u8.bits (IntKind.u8.wrap ((c : Int).fdiv (2 ^ min (7 * (i + 1)) IntKind.u64.bits))) ||| BitVec.ofInt IntKind.u8.bits 128).toNat)]) (bs := bd ++ [UInt8.ofNat (c.toNat / 128 ^ (i + 1) % 128 + 128)]) (by rw [bV_app]; exact congrArg (fun z => bV bd ++ [z]) hB.out)
        simp only [List.length_append,List.length_cons,List.length_nil,Nat.zero_add] at k1 k2
        exact Turn.next (i + 1) (by omega) ⟨rfl, i + 1, done ++ [UInt8.ofNat (c.toNat / 128 ^ (i + 1) % 128 + 128)], some b, _, _, rfl, by omega, by omega, rfl, rfl, by rw [<- List.append_assoc, hbd]; exact k1, hst'.out.trans k2, hdg'.out⟩
    · have hgt' : ¬ (1 : Int) < (k : Int) := by omega
      obtain rfl : k = 1 := by omega
      have e : done = dgE j c.toNat := by rw [<- hdg]; simp [dgE]
      subst e
      have hst' := Hid.mk hst
      have hw2' := Hid.mk hw2
      clear hw hst hw2
      (repeat' (first | (simp -implicitDefEqProofs (maxSteps := 1000000) (disch := first | assumption | omega | (simp only [ZDI]; omega)) only [*,minmaxV,minmax,G86,Za,Zb,Zc,Zd,Ze,Zf,Zg,Zh,Zi,Zj,Zk,Zl,Zm,Zn,Zo,Ja,Jb,Jc,J6,Jd,Je,J7,J8,Jf,Jg,Jh,Ji,Jj,Jk,J9,Jl,Jm,wr,Jn,JA,JB,Jo,Jp,Jq,Jr,Js,Jt,Ju,Jv,Jw,Jx,Jy,Jz,J0,J1,J2,J3,J4,J5,reduceCtorEq,JC,JD,JE,JF,JG,JH,JI,JJ]) | ((with_reducible (first | apply Ok.br | apply Ok.gd | apply Ok.ld)) <;> (intro g; (try simp only [ZGS] at g); try (exfalso; omega)))))
      exact Turn.exit ⟨rfl, rfl, ob', _, _, rfl, hw2'.out, hst'.out⟩
  · intro y ⟨e', l', g⟩ hW ⟨hy, ob', y1, y2, k2, hw2, hst⟩
    dsimp only at hW k2 hw2 hst
    subst l' hy
    rw [hW.spread]
    clear hW
    simp only [spread_t,spread_f,spread_n,Nat.zero_add,Nat.reduceAdd]
    rw [hnum] at hQ'
    have hB : Hid (V.int .u8 (IntKind.u8.wrap (BitVec.ofInt IntKind.u8.bits (IntKind.u8.wrap c) &&& BitVec.ofInt IntKind.u8.bits 127).toNat) = V.int .u8 ((UInt8.ofNat (c.toNat % 128)).toNat : Nat)) := ⟨by
      have := low_at (m := c.toNat)
      rwa [Int.toNat_of_nonneg hc.1] at this⟩
    have hbl : (bs ++ dgE j c.toNat).length <= bs.length + 10 := by rw [List.length_append, dgE_len]; omega
    rw [<- List.append_assoc] at hQ'
    generalize bs ++ dgE j c.toNat = bd at hw2 hQ' hbl
    have hst' := Hid.mk hst
    clear hst hnum hw
    cases ob' with
    | none =>
      obtain ⟨h1, rfl⟩ := hw2
      have hp := hcells_lt h1
      have h1' := Hid.mk h1
      (repeat' (first | (simp -implicitDefEqProofs (maxSteps := 1000000) (disch := first | assumption | omega | (simp only [ZDI]; omega)) only [*,minmaxV,minmax,G86,Za,Zb,Zc,Zd,Ze,Zf,Zg,Zh,Zi,Zj,Zk,Zl,Zm,Zn,Zo,Ja,Jb,Jc,J6,Jd,Je,J7,J8,Jf,Jg,Jh,Ji,Jj,Jk,J9,Jl,Jm,wr,Jn,JA,JB,Jo,Jp,Jq,Jr,Js,Jt,Ju,Jv,Jw,Jx,Jy,Jz,J0,J1,J2,J3,J4,J5,reduceCtorEq,JC,JD,JE,JF,JG,JH,JI,JJ]) | ((with_reducible (first | apply Ok.br | apply Ok.gd | apply Ok.ld)) <;> (intro g; (try simp only [ZGS] at g); try (exfalso; omega)))))
      obtain ⟨k1, k2⟩ := wr_new h1'.out (cs := [V.int .u8 (IntKind.u8.wrap (BitVec.ofInt IntKind.u8.bits (IntKind.u8.wrap c) &&& BitVec.ofInt IntKind.u8.bits 127).toNat)]) (bs := [UInt8.ofNat (c.toNat % 128)]) (hB.out ▸ rfl)
      exact hQ'.out _ ⟨_, some g.length, rfl, k1, hst'.out.trans k2⟩
    | some b =>
      obtain ⟨g', h1, h2, hbp⟩ := hw2
      have hp := hcells_lt h1
      have hb := hcells_lt h2
      have hpb := Ne.symm hbp
      have h1' := Hid.mk h1
      have h2' := Hid.mk h2
      have ht := bV_take bd
      have hle : bd.length <= (bV bd).length := by rw [bV_len]; exact Nat.le_refl _
      have hn1 : ¬ (bd.length + 1 <= bd.length) := by omega
      have hL : (bd.length + 1) * 1 <= 35184372088832 /\ bd.length + 1 <= 35184372088832 := by omega
      (repeat' (first | (simp -implicitDefEqProofs (maxSteps := 1000000) (disch := first | assumption | omega | (simp only [ZDI]; omega)) only [*,minmaxV,minmax,lenV,List.drop_zero,Nat.zero_add,Nat.mul_one,G86,Za,Zb,Zc,Zd,Ze,Zf,Zg,Zh,Zi,Zj,Zk,Zl,Zm,Zn,Zo,Ja,Jb,Jc,J6,Jd,Je,J7,J8,Jf,Jg,Jh,Ji,Jj,Jk,J9,Jl,Jm,wr,Jn,JA,JB,Jo,Jp,Jq,Jr,Js,Jt,Ju,Jv,Jw,Jx,Jy,Jz,J0,J1,J2,J3,J4,J5,reduceCtorEq,JC,JD,JE,JF,JG,JH,JI,JJ]) | ((with_reducible (first | apply Ok.br | apply Ok.gd | apply Ok.ld)) <;> (intro g; (try simp only [ZGS] at g); try (exfalso; omega)))))
      obtain ⟨k1, k2⟩ := wr_more h1'.out h2'.out hbp (cs := bV bd ++ [V.int .u8 (IntKind.u8.wrap (BitVec.ofInt IntKind.u8.bits (IntKind.u8.wrap c) &&& BitVec.ofInt IntKind.u8.bits 127).toNat)]) (bs := bd ++ [UInt8.ofNat (c.toNat % 128)]) (by rw [bV_app]; exact congrArg (fun z => bV bd ++ [z]) hB.out)
      simp only [List.length_append,List.length_cons,List.length_nil,Nat.zero_add] at k1 k2
      exact hQ'.out _ ⟨_, some b, rfl, k1, hst'.out.trans k2⟩
end Go.Ev
set_option maxRecDepth 100000
namespace Go.Ev
open Go.Ev renaming exPure -> Ja, ofValue -> Jb, cellsV -> Jc, load -> Jd, store -> Je, binOp -> Jf, intOp -> Jg, rdV -> Jh, vsame -> Ji, vsames -> Jj, makeSliceV -> Jk, resV -> Jl, isCell -> Jm, nilCheckV -> Jn, allV -> Jo, builtinV -> Jp, lenV -> Jq, indexAddrV -> Jr, unOp -> Js, minmaxV -> Jt, minmax -> Ju, sliceV -> Jv, asInt -> Jw, appendV -> Jx, forkB -> Jy, roY -> Jz, rwB -> J0, copyV -> J1, clearV -> J2, convV -> J3, sliceCells -> J4, shift -> J5
open Bool renaming true -> BT, false -> BF
open Nat renaming reduceEqDiff -> J6, reduceLT -> J7, reduceAdd -> J8, reduceBEq -> J9, reduceSub -> JA, reduceMul -> JB, reduceLeDiff -> JJ
open Int renaming reduceLT -> JC, reduceLE -> JD, reduceAdd -> JE, reduceSub -> JF, reduceNeg -> JG, reduceToNat -> JH, reduceEq -> JI
open Go.Proofs
theorem hiE_len : ∀ (k n : Nat), n < 128 ^ k -> (hiE n).length <= k
  | 0, n, h => by
    have : n = 0 := by simpa using h
    subst this
    rw [hiE]; simp
  | k + 1, n, h => by
    rw [hiE]
    split
    · simp
    · rw [List.length_append]
      have := hiE_len k (n / 128) (by rw [Nat.div_lt_iff_lt_mul (by omega), <- Nat.pow_succ]; exact h)
      simp; omega
theorem numE_len {n : Nat} (h : n < 18446744073709551616) : (numE n).length <= 10 := by
  unfold numE
  rw [List.length_append]
  have := hiE_len 9 (n / 128) (by
    rw [Nat.div_lt_iff_lt_mul (by omega), <- Nat.pow_succ]
    exact Nat.lt_of_lt_of_le h (by decide))
  simp; omega
theorem wrapU {n : Int} (h : 0 <= n /\ n < 18446744073709551616) : IntKind.u64.wrap n = n := by
  unfold IntKind.wrap
  simp [IntKind.bits, IntKind.signed]
  omega
theorem wrapI {n : Int} (h : 0 <= n /\ n < 9223372036854775808) : IntKind.i64.wrap n = n := by
  unfold IntKind.wrap
  simp [IntKind.bits, IntKind.signed]
  omega
theorem not64 {n : Int} (h : -9223372036854775808 <= n /\ n < 0) : IntKind.u64.wrap (IntKind.i64.wrap ((BitVec.ofInt IntKind.i64.bits (if IntKind.i64.signed = true then -1 else IntKind.i64.max) ^^^ BitVec.ofInt IntKind.i64.bits n).toNat : Nat)) = -n - 1 := by
  have e1 : BitVec.ofInt IntKind.i64.bits (if IntKind.i64.signed = true then -1 else IntKind.i64.max) = BitVec.allOnes 64 := by
    show BitVec.ofInt 64 (-1) = BitVec.allOnes 64
    decide
  have e3 : (BitVec.ofInt IntKind.i64.bits (if IntKind.i64.signed = true then -1 else IntKind.i64.max) ^^^ BitVec.ofInt IntKind.i64.bits n).toNat = (-n - 1).toNat := by
    rw [e1]
    show (BitVec.allOnes 64 ^^^ BitVec.ofInt 64 n).toNat = _
    rw [BitVec.allOnes_xor, BitVec.toNat_not, BitVec.toNat_ofInt]
    omega
  rw [e3, Int.toNat_of_nonneg (by omega), wrapI (by omega), wrapU (by omega)]
set_option maxHeartbeats 4000000 in
theorem wInt_at {H : Heap} {p : Nat} {ob : Option Nat} {bs : List UInt8} (hw : WrAt H p ob bs) {n : Int} (hn : -9223372036854775808 <= n /\ n < 9223372036854775808) (hl : bs.length + 30 < 35184372088832) :
    Ev.Ok (D X (.fn 60 []) [.ptr p 0 0, .int .i64 n] H) (Wrote p ob (bs ++ intE n) H) := by
  refine Ok.aim fun Q hQ => ?_
  have hQ' := Hid.mk hQ
  clear hQ
  by_cases h0 : n < 0
  · obtain ⟨y1, e1, H1, ob1, rfl, w1, s1⟩ := wByte_at hw (c := 1) (by decide) (by omega)
    obtain ⟨y2, e2, H2, ob2, rfl, w2, s2⟩ := wNum_at w1 (c := -n - 1) (by omega) (by rw [List.length_append]; simp; omega)
    have hfin : Hid (Q (.tup [], H2)) := ⟨hQ'.out _ ⟨H2, ob2, rfl, by unfold intE; rw [if_pos h0]; simpa using w2, s1.trans s2⟩⟩
    clear hw w1 s1 w2 s2 hQ'
    have hx := not64 (n := n) (by omega)
    (refine Ok.body body60 pin60 ?_; simp only [c60,Try.f60,Option.getD_some,nslot60,List.append_nil,List.map,List.replicate,List.length_cons,List.length_nil,Nat.reduceAdd,Nat.reduceSub,List.cons_append,List.nil_append])
    (repeat' (first | (simp -implicitDefEqProofs (maxSteps := 1000000) (disch := first | assumption | omega | (simp only [ZDI]; omega)) only [*,G60,Za,Zb,Zc,Zd,Ze,Zf,Zg,Zh,Zi,Zj,Zk,Zl,Zm,Zn,Zo,Ja,Jb,Jc,J6,Jd,Je,J7,J8,Jf,Jg,Jh,Ji,Jj,Jk,J9,Jl,Jm,wr,Jn,JA,JB,Jo,Jp,Jq,Jr,Js,Jt,Ju,Jv,Jw,Jx,Jy,Jz,J0,J1,J2,J3,J4,J5,reduceCtorEq,JC,JD,JE,JF,JG,JH,JI,JJ]) | ((with_reducible (first | apply Ok.br | apply Ok.gd | apply Ok.ld)) <;> (intro g; (try simp only [ZGS] at g); try (exfalso; omega)))))
    exact hfin.out
  · obtain ⟨y1, e1, H1, ob1, rfl, w1, s1⟩ := wByte_at hw (c := 0) (by decide) (by omega)
    obtain ⟨y2, e2, H2, ob2, rfl, w2, s2⟩ := wNum_at w1 (c := n) (by omega) (by rw [List.length_append]; simp; omega)
    have hfin : Hid (Q (.tup [], H2)) := ⟨hQ'.out _ ⟨H2, ob2, rfl, by unfold intE; rw [if_neg h0]; simpa using w2, s1.trans s2⟩⟩
    clear hw w1 s1 w2 s2 hQ'
    have hx := wrapU (n := n) (by omega)
    (refine Ok.body body60 pin60 ?_; simp only [c60,Try.f60,Option.getD_some,nslot60,List.append_nil,List.map,List.replicate,List.length_cons,List.length_nil,Nat.reduceAdd,Nat.reduceSub,List.cons_append,List.nil_append])
    (repeat' (first | (simp -implicitDefEqProofs (maxSteps := 1000000) (disch := first | assumption | omega | (simp only [ZDI]; omega)) only [*,G60,Za,Zb,Zc,Zd,Ze,Zf,Zg,Zh,Zi,Zj,Zk,Zl,Zm,Zn,Zo,Ja,Jb,Jc,J6,Jd,Je,J7,J8,Jf,Jg,Jh,Ji,Jj,Jk,J9,Jl,Jm,wr,Jn,JA,JB,Jo,Jp,Jq,Jr,Js,Jt,Ju,Jv,Jw,Jx,Jy,Jz,J0,J1,J2,J3,J4,J5,reduceCtorEq,JC,JD,JE,JF,JG,JH,JI,JJ]) | ((with_reducible (first | apply Ok.br | apply Ok.gd | apply Ok.ld)) <;> (intro g; (try simp only [ZGS] at g); try (exfalso; omega)))))
    exact hfin.out
theorem wBool_at {H : Heap} {p : Nat} {ob : Option Nat} {bs : List UInt8} (hw : WrAt H p ob bs) (t : Bool) (hl : bs.length + 30 < 35184372088832) :
    Ev.Ok (D X (.fn 61 []) [.ptr p 0 0, .bool t] H) (Wrote p ob (bs ++ [if t then 1 else 0]) H) := by
  refine Ok.aim fun Q hQ => ?_
  have hQ' := Hid.mk hQ
  clear hQ
  cases t with
  | true =>
    obtain ⟨y1, e1, H1, ob1, rfl, w1, s1⟩ := wByte_at hw (c := 1) (by decide) (by omega)
    have hfin : Hid (Q (.tup [], H1)) := ⟨hQ'.out _ ⟨H1, ob1, rfl, w1, s1⟩⟩
    clear hw w1 s1 hQ'
    (refine Ok.body body61 pin61 ?_; simp only [c61,Try.f61,Option.getD_some,nslot61,List.append_nil,List.map,List.replicate,List.length_cons,List.length_nil,Nat.reduceAdd,Nat.reduceSub,List.cons_append,List.nil_append])
    (repeat' (first | (simp -implicitDefEqProofs (maxSteps := 1000000) (disch := first | assumption | omega | (simp only [ZDI]; omega)) only [*,G61,Za,Zb,Zc,Zd,Ze,Zf,Zg,Zh,Zi,Zj,Zk,Zl,Zm,Zn,Zo,Ja,Jb,Jc,J6,Jd,Je,J7,J8,Jf,Jg,Jh,Ji,Jj,Jk,J9,Jl,Jm,wr,Jn,JA,JB,Jo,Jp,Jq,Jr,Js,Jt,Ju,Jv,Jw,Jx,Jy,Jz,J0,J1,J2,J3,J4,J5,reduceCtorEq,JC,JD,JE,JF,JG,JH,JI,JJ]) | ((with_reducible (first | apply Ok.br | apply Ok.gd | apply Ok.ld)) <;> (intro g; (try simp only [ZGS] at g); try (exfalso; omega)))))
    exact hfin.out
  | false =>
    obtain ⟨y1, e1, H1, ob1, rfl, w1, s1⟩ := wByte_at hw (c := 0) (by decide) (by omega)
    have hfin : Hid (Q (.tup [], H1)) := ⟨hQ'.out _ ⟨H1, ob1, rfl, w1, s1⟩⟩
    clear hw w1 s1 hQ'
    (refine Ok.body body61 pin61 ?_; simp only [c61,Try.f61,Option.getD_some,nslot61,List.append_nil,List.map,List.replicate,List.length_cons,List.length_nil,Nat.reduceAdd,Nat.reduceSub,List.cons_append,List.nil_append])
    (repeat' (first | (simp -implicitDefEqProofs (maxSteps := 1000000) (disch := first | assumption | omega | (simp only [ZDI]; omega)) only [*,G61,Za,Zb,Zc,Zd,Ze,Zf,Zg,Zh,Zi,Zj,Zk,Zl,Zm,Zn,Zo,Ja,Jb,Jc,J6,Jd,Je,J7,J8,Jf,Jg,Jh,Ji,Jj,Jk,J9,Jl,Jm,wr,Jn,JA,JB,Jo,Jp,Jq,Jr,Js,Jt,Ju,Jv,Jw,Jx,Jy,Jz,J0,J1,J2,J3,J4,J5,reduceCtorEq,JC,JD,JE,JF,JG,JH,JI,JJ]) | ((with_reducible (first | apply Ok.br | apply Ok.gd | apply Ok.ld)) <;> (intro g; (try simp only [ZGS] at g); try (exfalso; omega)))))
    exact hfin.out
end Go.Ev
set_option maxRecDepth 100000
namespace Go.Ev
open Go.Ev renaming exPure -> Ja, ofValue -> Jb, cellsV -> Jc, load -> Jd, store -> Je, binOp -> Jf, intOp -> Jg, rdV -> Jh, vsame -> Ji, vsames -> Jj, makeSliceV -> Jk, resV -> Jl, isCell -> Jm, nilCheckV -> Jn, allV -> Jo, builtinV -> Jp, lenV -> Jq, indexAddrV -> Jr, unOp -> Js, minmaxV -> Jt, minmax -> Ju, sliceV -> Jv, asInt -> Jw, appendV -> Jx, forkB -> Jy, roY -> Jz, rwB -> J0, copyV -> J1, clearV -> J2, convV -> J3, sliceCells -> J4, shift -> J5
open Bool renaming true -> BT, false -> BF
open Nat renaming reduceEqDiff -> J6, reduceLT -> J7, reduceAdd -> J8, reduceBEq -> J9, reduceSub -> JA, reduceMul -> JB, reduceLeDiff -> JJ
open Int renaming reduceLT -> JC, reduceLE -> JD, reduceAdd -> JE, reduceSub -> JF, reduceNeg -> JG, reduceToNat -> JH, reduceEq -> JI
open Go.Proofs
set_option maxHeartbeats 4000000 in
theorem wText_at {H : Heap} {p : Nat} {ob : Option Nat} {bs : List UInt8} (hw : WrAt H p ob bs) (s : ByteArray) (hl : bs.length + s.size + 60 < 35184372088832) :
    Ev.Ok (D X (.fn 88 []) [.ptr p 0 0, .str s] H) (Wrote p ob (bs ++ textE s) H) := by
  refine Ok.aim fun Q hQ => ?_
  have hQ' := Hid.mk hQ
  clear hQ
  obtain ⟨y1, e1, H1, ob1, rfl, w1, s1⟩ := wNum_at hw (c := (s.size : Int)) (by omega) (by omega)
  rw [Int.toNat_natCast] at w1
  have hnl := numE_len (n := s.size) (by omega)
  have hbl : (bs ++ numE s.size).length <= bs.length + 10 := by rw [List.length_append]; omega
  have hne : bs ++ numE s.size ≠ [] := by unfold numE; simp
  have hfin : ∀ H2 ob2, WrAt H2 p ob2 (bs ++ numE s.size ++ s.data.toList) -> WStep p ob1 ob2 H1 H2 -> Q (.tup [], H2) := fun H2 ob2 a c => hQ'.out _ ⟨H2, ob2, rfl, by unfold textE; rw [<- List.append_assoc]; exact a, s1.trans c⟩
  have hfin' := Hid.mk hfin
  have hu := wrapU (n := (s.size : Int)) (by omega)
  generalize bs ++ numE s.size = bd at w1 hfin' hbl hne
  clear hfin hw s1 hQ' hnl
  cases ob1 with
  | none => exact absurd w1.2 hne
  | some b =>
    obtain ⟨g', h1, h2, hbp⟩ := w1
    have hp := hcells_lt h1
    have hb := hcells_lt h2
    have hpb := Ne.symm hbp
    have h1' := Hid.mk h1
    have h2' := Hid.mk h2
    have ht := bV_take bd
    have hle : bd.length <= (bV bd).length := by rw [bV_len]; exact Nat.le_refl _
    have hL : (bd.length + s.size) * 1 <= 35184372088832 /\ bd.length + s.size <= 35184372088832 := by omega
    clear hne
    have hsl : s.data.toList.length = s.size := by rw [Array.length_toList]; rfl
    by_cases hz : s.size = 0
    · have hz1 : bd.length + s.size <= bd.length := by omega
      have hnil : s.data.toList = [] := List.length_eq_zero_iff.1 (by omega)
      rw [hnil, List.append_nil] at hfin'
      have hk : WrAt (H1.set p (.cells 0 true [.sl (.at b g' 0) bd.length bd.length 1])) p (some b) bd /\ WStep p (some b) (some b) H1 (H1.set p (.cells 0 true [.sl (.at b g' 0) bd.length bd.length 1])) :=
        ⟨⟨g', hcells_set_eq hp, by rw [hcells_set_ne hbp]; exact h2, hbp⟩, Keeps.set (.refl _ _) (.inl (by simp)) _, fun b h => h, fun h => (nomatch h)⟩
      have hk' := Hid.mk hk
      have hz2 : decide (s.size = 0) = true := decide_eq_true hz
      clear hk hnil hsl hz
      (refine Ok.body body88 pin88 ?_; simp only [c88,Try.f88,Option.getD_some,nslot88,List.append_nil,List.map,List.replicate,List.length_cons,List.length_nil,Nat.reduceAdd,Nat.reduceSub,List.cons_append,List.nil_append])
      (repeat' (first | (simp -implicitDefEqProofs (maxSteps := 1000000) (disch := first | assumption | omega | (simp only [ZDI]; omega)) only [*,lenV,List.drop_zero,Nat.zero_add,Nat.mul_one,G88,Za,Zb,Zc,Zd,Ze,Zf,Zg,Zh,Zi,Zj,Zk,Zl,Zm,Zn,Zo,Ja,Jb,Jc,J6,Jd,Je,J7,J8,Jf,Jg,Jh,Ji,Jj,Jk,J9,Jl,Jm,wr,Jn,JA,JB,Jo,Jp,Jq,Jr,Js,Jt,Ju,Jv,Jw,Jx,Jy,Jz,J0,J1,J2,J3,J4,J5,reduceCtorEq,JC,JD,JE,JF,JG,JH,JI,JJ]) | ((with_reducible (first | apply Ok.br | apply Ok.gd | apply Ok.ld)) <;> (intro g; (try simp only [ZGS] at g); try (exfalso; omega)))))
      exact hfin'.out _ (some b) hk'.out.1 hk'.out.2
    · have hz1 : ¬ (bd.length + s.size <= bd.length) := by omega
      have hk := wr_more h1 h2 hbp (cs := bV bd ++ bytesV s) (bs := bd ++ s.data.toList) (by rw [bV_app, bytesV_eq])
      rw [List.length_append, hsl] at hk
      have hk' := Hid.mk hk
      clear hk hsl
      (refine Ok.body body88 pin88 ?_; simp only [c88,Try.f88,Option.getD_some,nslot88,List.append_nil,List.map,List.replicate,List.length_cons,List.length_nil,Nat.reduceAdd,Nat.reduceSub,List.cons_append,List.nil_append])
      (repeat' (first | (simp -implicitDefEqProofs (maxSteps := 1000000) (disch := first | assumption | omega | (simp only [ZDI]; omega)) only [*,lenV,List.drop_zero,Nat.zero_add,Nat.mul_one,G88,Za,Zb,Zc,Zd,Ze,Zf,Zg,Zh,Zi,Zj,Zk,Zl,Zm,Zn,Zo,Ja,Jb,Jc,J6,Jd,Je,J7,J8,Jf,Jg,Jh,Ji,Jj,Jk,J9,Jl,Jm,wr,Jn,JA,JB,Jo,Jp,Jq,Jr,Js,Jt,Ju,Jv,Jw,Jx,Jy,Jz,J0,J1,J2,J3,J4,J5,reduceCtorEq,JC,JD,JE,JF,JG,JH,JI,JJ]) | ((with_reducible (first | apply Ok.br | apply Ok.gd | apply Ok.ld)) <;> (intro g; (try simp only [ZGS] at g); try (exfalso; omega)))))
      exact hfin'.out _ (some b) hk'.out.1 hk'.out.2
end Go.Ev
set_option maxRecDepth 100000
namespace Go.Ev
open Go.Proofs
def StrsAt (h : Heap) (v : V) (l : List ByteArray) : Prop :=
  ∃ a cap z, v = .sl a l.length cap z /\ l.length <= 9223372036854775807 /\ True /\ (l = [] \/ ∃ b g o rw full, a = .at b g o /\ hcells h b g = some (rw, full) /\ ∀ (i : Nat) (s : ByteArray), l[i]? = some s -> full[o + i]? = some (.str s))
theorem Strs.at {h : Heap} {v : V} {l : List ByteArray} (hs : Strs h v l) : StrsAt h v l := by
  obtain ⟨h1, h2, ⟨rfl, rfl⟩ | ⟨rfl, rfl⟩ | ⟨b, cap, full, rfl, h3, h4, h5, h6, h7⟩⟩ := hs
  · exact ⟨_, _, _, rfl, h2, trivial, .inl rfl⟩
  · exact ⟨_, _, _, rfl, h2, trivial, .inl rfl⟩
  · refine ⟨_, _, _, rfl, h2, trivial, .inr ⟨b, 0, 0, false, full, rfl, by unfold hcells; rw [h5]; exact grd_t rfl _, fun i s hi => by rw [Nat.zero_add]; exact h7 i s hi⟩⟩
end Go.Ev
set_option maxRecDepth 100000
namespace Go.Ev
open Go.Proofs
def KeepC (h h' : Heap) : Prop := h.length <= h'.length /\ ∀ b g p, hcells h b g = some p -> hcells h' b g = some p
theorem KeepC.refl (h : Heap) : KeepC h h := ⟨Nat.le_refl _, fun _ _ _ e => e⟩
theorem KeepC.trans {a b c : Heap} (h : KeepC a b) (k : KeepC b c) : KeepC a c := ⟨Nat.le_trans h.1 k.1, fun i g p e => k.2 i g p (h.2 i g p e)⟩
theorem KeepC.app (h l : Heap) : KeepC h (h ++ l) := ⟨by simp, fun b g p e => by rw [hcells_app (hcells_lt e)]; exact e⟩
theorem StrsAt.keep {h h' : Heap} {v : V} {l : List ByteArray} (hs : StrsAt h v l) (k : KeepC h h') : StrsAt h' v l := by
  obtain ⟨a, cap, z, h1, h2, h3, h4⟩ := hs
  refine ⟨a, cap, z, h1, h2, h3, h4.imp id ?_⟩
  rintro ⟨b, g, o, rw, full, e1, e2, e3⟩
  exact ⟨b, g, o, rw, full, e1, k.2 _ _ _ e2, e3⟩
theorem RowAt.keep {h h' : Heap} {v : V} {l : List RP} (hs : RowAt h v l) (k : KeepC h h') : RowAt h' v l := by
  obtain ⟨a, cap, z, h1, h2, h3, h4⟩ := hs
  refine ⟨a, cap, z, h1, h2, h3, h4.imp id ?_⟩
  rintro ⟨b, g, o, rw, full, e1, e2, e3⟩
  exact ⟨b, g, o, rw, full, e1, k.2 _ _ _ e2, e3⟩
end Go.Ev
set_option maxRecDepth 100000
namespace Go.Ev
open Go.Ev renaming exPure -> Ja, ofValue -> Jb, cellsV -> Jc, load -> Jd, store -> Je, binOp -> Jf, intOp -> Jg, rdV -> Jh, vsame -> Ji, vsames -> Jj, makeSliceV -> Jk, resV -> Jl, isCell -> Jm, nilCheckV -> Jn, allV -> Jo, builtinV -> Jp, lenV -> Jq, indexAddrV -> Jr, unOp -> Js, minmaxV -> Jt, minmax -> Ju, sliceV -> Jv, asInt -> Jw, appendV -> Jx, forkB -> Jy, roY -> Jz, rwB -> J0, copyV -> J1, clearV -> J2, convV -> J3, sliceCells -> J4, shift -> J5
open Bool renaming true -> BT, false -> BF
open Nat renaming reduceEqDiff -> J6, reduceLT -> J7, reduceAdd -> J8, reduceBEq -> J9, reduceSub -> JA, reduceMul -> JB, reduceLeDiff -> JJ
open Int renaming reduceLT -> JC, reduceLE -> JD, reduceAdd -> JE, reduceSub -> JF, reduceNeg -> JG, reduceToNat -> JH, reduceEq -> JI
open Go.Proofs
theorem WStep.keepC {H0 H H' : Heap} {p : Nat} {ob ob' : Option Nat} (h : WStep p ob ob' H H') (hk : KeepC H0 H) (hp : H0.length <= p) (hb : ∀ b, ob = some b -> H0.length <= b) : KeepC H0 H' /\ ∀ b, ob' = some b -> H0.length <= b := by
  refine ⟨⟨Nat.le_trans hk.1 h.1.1, fun i g q hc => ?_⟩, fun b e => ?_⟩
  · have hi := hcells_lt hc
    refine h.1.cells (hk.2 _ _ _ hc) fun hm => ?_
    rcases List.mem_cons.1 hm with rfl | hm
    · omega
    · have := hb i (by simpa using hm)
      omega
  · rcases h.blk e with e1 | e1
    · exact hb b e1
    · have := hk.1; omega
def In64' (n : Int) : Prop := -9223372036854775808 <= n /\ n < 9223372036854775808
def refE (k : RP) : List UInt8 := intE k.1 ++ intE k.2
theorem intE_len {n : Int} (h : In64' n) : (intE n).length <= 11 := by
  unfold In64' at h
  unfold intE
  split
  · have := numE_len (n := (-n - 1).toNat) (by omega)
    rw [List.length_cons]; omega
  · have := numE_len (n := n.toNat) (by omega)
    rw [List.length_cons]; omega
set_option maxHeartbeats 4000000 in
theorem wRef_at {H : Heap} {p : Nat} {ob : Option Nat} {bs : List UInt8} (hw : WrAt H p ob bs) {k : RP} (h1 : In64' k.1) (h2 : In64' k.2) (hl : bs.length + 60 < 35184372088832) :
    Ev.Ok (D X (.fn 64 []) [.ptr p 0 0, .agg [.int .i64 k.1, .int .i64 k.2]] H) (Wrote p ob (bs ++ refE k) H) := by
  refine Ok.aim fun Q hQ => ?_
  have hQ' := Hid.mk hQ
  clear hQ
  obtain ⟨y1, e1, H1, ob1, rfl, w1, s1⟩ := wInt_at hw h1 (by omega)
  have hi := intE_len h1
  obtain ⟨y2, e2, H2, ob2, rfl, w2, s2⟩ := wInt_at w1 h2 (by rw [List.length_append]; omega)
  have hfin : Hid (Q (.tup [], H2)) := ⟨hQ'.out _ ⟨H2, ob2, rfl, by unfold refE; rw [<- List.append_assoc]; exact w2, s1.trans s2⟩⟩
  clear hw w1 s1 w2 s2 hQ' hi
  (refine Ok.body body64 pin64 ?_; simp only [c64,Try.f64,Option.getD_some,nslot64,List.append_nil,List.map,List.replicate,List.length_cons,List.length_nil,Nat.reduceAdd,Nat.reduceSub,List.cons_append,List.nil_append])
  (repeat' (first | (simp -implicitDefEqProofs (maxSteps := 1000000) (disch := first | assumption | omega | (simp only [ZDI]; omega)) only [*,G64,Za,Zb,Zc,Zd,Ze,Zf,Zg,Zh,Zi,Zj,Zk,Zl,Zm,Zn,Zo,Ja,Jb,Jc,J6,Jd,Je,J7,J8,Jf,Jg,Jh,Ji,Jj,Jk,J9,Jl,Jm,wr,Jn,JA,JB,Jo,Jp,Jq,Jr,Js,Jt,Ju,Jv,Jw,Jx,Jy,Jz,J0,J1,J2,J3,J4,J5,reduceCtorEq,JC,JD,JE,JF,JG,JH,JI,JJ]) | ((with_reducible (first | apply Ok.br | apply Ok.gd | apply Ok.ld)) <;> (intro g; (try simp only [ZGS] at g); try (exfalso; omega)))))
  exact hfin.out
end Go.Ev
set_option maxRecDepth 100000
namespace Go.Ev
open Go.Ev renaming exPure -> Ja, ofValue -> Jb, cellsV -> Jc, load -> Jd, store -> Je, binOp -> Jf, intOp -> Jg, rdV -> Jh, vsame -> Ji, vsames -> Jj, makeSliceV -> Jk, resV -> Jl, isCell -> Jm, nilCheckV -> Jn, allV -> Jo, builtinV -> Jp, lenV -> Jq, indexAddrV -> Jr, unOp -> Js, minmaxV -> Jt, minmax -> Ju, sliceV -> Jv, asInt -> Jw, appendV -> Jx, forkB -> Jy, roY -> Jz, rwB -> J0, copyV -> J1, clearV -> J2, convV -> J3, sliceCells -> J4, shift -> J5
open Bool renaming true -> BT, false -> BF
open Nat renaming reduceEqDiff -> J6, reduceLT -> J7, reduceAdd -> J8, reduceBEq -> J9, reduceSub -> JA, reduceMul -> JB, reduceLeDiff -> JJ
open Int renaming reduceLT -> JC, reduceLE -> JD, reduceAdd -> JE, reduceSub -> JF, reduceNeg -> JG, reduceToNat -> JH, reduceEq -> JI
open Go.Proofs
def refsE (l : List RP) : List UInt8 := l.flatMap refE
theorem refsE_snoc {l : List RP} {i : Nat} {k : RP} (h : l[i]? = some k) : refsE (l.take (i + 1)) = refsE (l.take i) ++ refE k := by
  unfold refsE
  rw [List.take_add_one, h, List.flatMap_append]; simp
theorem refsE_len : ∀ (l : List RP), (∀ k ∈ l, In64' k.1 /\ In64' k.2) -> (refsE l).length <= 22 * l.length
  | [], _ => by simp [refsE]
  | k :: l, h => by
    have h1 := refsE_len l fun x hx => h x (by simp [hx])
    obtain ⟨a, b⟩ := h k (by simp)
    have ha := intE_len a
    have hb := intE_len b
    unfold refsE at h1 ⊢
    rw [List.flatMap_cons, List.length_append, List.length_cons]
    unfold refE
    rw [List.length_append]
    unfold refE at h1
    omega
set_option maxHeartbeats 4000000 in
theorem putRefs_at {H0 H : Heap} {p : Nat} {ob : Option Nat} {bs : List UInt8} {v : V} {l : List RP} (hr : RowAt H0 v l) (hk : KeepC H0 H) (hp0 : H0.length <= p) (hb0 : ∀ b, ob = some b -> H0.length <= b) (hw : WrAt H p ob bs)
    (hin : ∀ k ∈ l, In64' k.1 /\ In64' k.2) (hll : l.length <= 5000) (hl : bs.length + 200000 < 35184372088832) :
    Ev.Ok (D X (.fn 63 []) [.ptr p 0 0, v, .fn 64 []] H) (Wrote p ob (bs ++ numE l.length ++ refsE l) H) := by
  refine Ok.aim fun Q hQ => ?_
  have hQ' := Hid.mk hQ
  clear hQ
  obtain ⟨y1, e1, H1, ob1, rfl, w1, s1⟩ := wNum_at hw (c := (l.length : Int)) (by omega) (by omega)
  rw [Int.toNat_natCast] at w1
  have hnl := numE_len (n := l.length) (by omega)
  have hu := wrapU (n := (l.length : Int)) (by omega)
  obtain ⟨hk1, hb1⟩ := s1.keepC hk hp0 hb0
  have hbl : (bs ++ numE l.length).length <= bs.length + 10 := by rw [List.length_append]; omega
  have hfin : ∀ H2 ob2, WrAt H2 p ob2 (bs ++ numE l.length ++ refsE l) -> WStep p ob1 ob2 H1 H2 -> Q (.tup [], H2) := fun H2 ob2 a c => hQ'.out _ ⟨H2, ob2, rfl, a, s1.trans c⟩
  generalize bs ++ numE l.length = bd at w1 hfin hbl
  have hfin' := Hid.mk hfin
  have hb1' := Hid.mk hb1
  have hk1' := Hid.mk hk1
  clear hfin hQ' hw s1 hk hb0 hb1 hk1 hnl
  obtain ⟨a, cap, z, rfl, h1, h1', h2⟩ := hr
  (refine Ok.body body63 pin63 ?_; simp only [c63,Try.f63,Option.getD_some,nslot63,List.append_nil,List.map,List.replicate,List.length_cons,List.length_nil,Nat.reduceAdd,Nat.reduceSub,List.cons_append,List.nil_append])
  (repeat' (first | (simp -implicitDefEqProofs (maxSteps := 1000000) (disch := first | assumption | omega | (simp only [ZDI]; omega)) only [*,lenV,G63,Za,Zb,Zc,Zd,Ze,Zf,Zg,Zh,Zi,Zj,Zk,Zl,Zm,Zn,Zo,Ja,Jb,Jc,J6,Jd,Je,J7,J8,Jf,Jg,Jh,Ji,Jj,Jk,J9,Jl,Jm,wr,Jn,JA,JB,Jo,Jp,Jq,Jr,Js,Jt,Ju,Jv,Jw,Jx,Jy,Jz,J0,J1,J2,J3,J4,J5,reduceCtorEq,JC,JD,JE,JF,JG,JH,JI,JJ]) | ((with_reducible (first | apply Ok.br | apply Ok.gd | apply Ok.ld)) <;> (intro g; (try simp only [ZGS] at g); try (exfalso; omega)))))
  clear e1 hu
  refine Ok.loop [BF, BF, BF, BF, BF, BF, BF, BT, BF, BF, BF, BF, BF, BF, BF, BT, BT, BT, BT, BT, BT, BT, BT, BT] (fun n s2 => ∃ (i w : Nat) (q : List V) (ob' : Option Nat), n = l.length - i /\ i <= l.length /\ tv s2.e 15 = .v (.int .i64 i) /\ s2.l = [(w, q)] /\ WrAt s2.h p ob' (bd ++ refsE (l.take i)) /\ WStep p ob1 ob' H1 s2.h)
    (fun y s2 => y = .exit 0 /\ ∃ (w : Nat) (q : List V) (ob' : Option Nat), s2.l = [(w, q)] /\ WrAt s2.h p ob' (bd ++ refsE l) /\ WStep p ob1 ob' H1 s2.h) (l.length - 0) ⟨0, 0, [], ob1, rfl, Nat.zero_le _, rfl, rfl, by simpa [refsE] using w1, WStep.refl _ _ _ (by intro h b e; rw [h] at e; cases e)⟩ ?_ ?_
  · intro n ⟨e', l', g⟩ hW ⟨i, w, q, ob', hm, hi, h9, k2, hwr, hst⟩
    dsimp only at hW h9 k2 hwr hst
    subst l'
    rw [hW.spread]
    simp only [spread_t,spread_f,spread_n,Nat.zero_add,Nat.reduceAdd,h9]
    clear hW
    by_cases hlt : i < l.length
    · have hlt' : (i : Int) < (l.length : Int) := by omega
      have g1 : 0 <= (i : Int) /\ (i : Int) < (l.length : Int) := by omega
      rcases h2 with rfl | ⟨bb, qq, oo, rw, full, rfl, hbc, hfull, ho⟩
      · simp at hlt
      · obtain ⟨k, hy⟩ : ∃ k, l[i]? = some k := ⟨_, List.getElem?_eq_getElem hlt⟩
        have hf := hfull i _ hy
        have ho2 : oo + i * 2 + 2 <= full.length := by omega
        have hbc2 := (hst.keepC hk1'.out hp0 hb1'.out).1.2 _ _ _ hbc
        obtain ⟨i1, i2⟩ := hin k (List.mem_of_getElem? hy)
        have hrl := refsE_len (l.take i) fun x hx => hin x (List.mem_of_mem_take hx)
        rw [List.length_take] at hrl
        obtain ⟨y2, e2, H2, ob2, rfl, w2, s2⟩ := wRef_at hwr (k := k) i1 i2 (by rw [List.length_append]; omega)
        rw [List.append_assoc, <- refsE_snoc hy] at w2
        have w2' := Hid.mk w2
        have s2' := Hid.mk (hst.trans s2)
        clear hfull ho hy hbc w2 s2 hwr hst w1 hrl
        (repeat' (first | (simp -implicitDefEqProofs (maxSteps := 1000000) (disch := first | assumption | omega | (simp only [ZDI]; omega)) only [*,lenV,G63,Za,Zb,Zc,Zd,Ze,Zf,Zg,Zh,Zi,Zj,Zk,Zl,Zm,Zn,Zo,Ja,Jb,Jc,J6,Jd,Je,J7,J8,Jf,Jg,Jh,Ji,Jj,Jk,J9,Jl,Jm,wr,Jn,JA,JB,Jo,Jp,Jq,Jr,Js,Jt,Ju,Jv,Jw,Jx,Jy,Jz,J0,J1,J2,J3,J4,J5,reduceCtorEq,JC,JD,JE,JF,JG,JH,JI,JJ]) | ((with_reducible (first | apply Ok.br | apply Ok.gd | apply Ok.ld)) <;> (intro g; (try simp only [ZGS] at g); try (exfalso; omega)))))
        exact Turn.next (l.length - (i + 1)) (by omega) ⟨rfl, i + 1, _, _, ob2, rfl, by omega, rfl, rfl, w2'.out, s2'.out⟩
    · have hlt' : ¬ (i : Int) < (l.length : Int) := by omega
      rw [List.take_of_length_le (by omega)] at hwr
      have w2' := Hid.mk hwr
      have s2' := Hid.mk hst
      clear hwr hst w1
      (repeat' (first | (simp -implicitDefEqProofs (maxSteps := 1000000) (disch := first | assumption | omega | (simp only [ZDI]; omega)) only [*,lenV,G63,Za,Zb,Zc,Zd,Ze,Zf,Zg,Zh,Zi,Zj,Zk,Zl,Zm,Zn,Zo,Ja,Jb,Jc,J6,Jd,Je,J7,J8,Jf,Jg,Jh,Ji,Jj,Jk,J9,Jl,Jm,wr,Jn,JA,JB,Jo,Jp,Jq,Jr,Js,Jt,Ju,Jv,Jw,Jx,Jy,Jz,J0,J1,J2,J3,J4,J5,reduceCtorEq,JC,JD,JE,JF,JG,JH,JI,JJ]) | ((with_reducible (first | apply Ok.br | apply Ok.gd | apply Ok.ld)) <;> (intro g; (try simp only [ZGS] at g); try (exfalso; omega)))))
      exact Turn.exit ⟨rfl, rfl, _, _, ob', rfl, w2'.out, s2'.out⟩
  · intro y ⟨e', l', g⟩ hW ⟨hy, w, q, ob', k2, hwr, hst⟩
    dsimp only at hW k2 hwr hst
    subst l' hy
    rw [hW.spread]
    clear hW
    simp only [spread_t,spread_f,spread_n,Nat.zero_add,Nat.reduceAdd]
    have hq := Hid.mk (hfin'.out _ _ hwr hst)
    clear hwr hst w1
    (repeat' (first | (simp -implicitDefEqProofs (maxSteps := 1000000) (disch := first | assumption | omega | (simp only [ZDI]; omega)) only [*,G63,Za,Zb,Zc,Zd,Ze,Zf,Zg,Zh,Zi,Zj,Zk,Zl,Zm,Zn,Zo,Ja,Jb,Jc,J6,Jd,Je,J7,J8,Jf,Jg,Jh,Ji,Jj,Jk,J9,Jl,Jm,wr,Jn,JA,JB,Jo,Jp,Jq,Jr,Js,Jt,Ju,Jv,Jw,Jx,Jy,Jz,J0,J1,J2,J3,J4,J5,reduceCtorEq,JC,JD,JE,JF,JG,JH,JI,JJ]) | ((with_reducible (first | apply Ok.br | apply Ok.gd | apply Ok.ld)) <;> (intro g; (try simp only [ZGS] at g); try (exfalso; omega)))))
    exact hq.out
end Go.Ev
set_option maxRecDepth 100000
namespace Go.Ev
open Go.Ev renaming exPure -> Ja, ofValue -> Jb, cellsV -> Jc, load -> Jd, store -> Je, binOp -> Jf, intOp -> Jg, rdV -> Jh, vsame -> Ji, vsames -> Jj, makeSliceV -> Jk, resV -> Jl, isCell -> Jm, nilCheckV -> Jn, allV -> Jo, builtinV -> Jp, lenV -> Jq, indexAddrV -> Jr, unOp -> Js, minmaxV -> Jt, minmax -> Ju, sliceV -> Jv, asInt -> Jw, appendV -> Jx, forkB -> Jy, roY -> Jz, rwB -> J0, copyV -> J1, clearV -> J2, convV -> J3, sliceCells -> J4, shift -> J5
open Bool renaming true -> BT, false -> BF
open Nat renaming reduceEqDiff -> J6, reduceLT -> J7, reduceAdd -> J8, reduceBEq -> J9, reduceSub -> JA, reduceMul -> JB, reduceLeDiff -> JJ
open Int renaming reduceLT -> JC, reduceLE -> JD, reduceAdd -> JE, reduceSub -> JF, reduceNeg -> JG, reduceToNat -> JH, reduceEq -> JI
open Go.Proofs
def textsE (l : List ByteArray) : List UInt8 := l.flatMap textE
def sumE (l : List ByteArray) : Nat := (l.map fun s => s.size).sum
theorem textsE_snoc {l : List ByteArray} {i : Nat} {k : ByteArray} (h : l[i]? = some k) : textsE (l.take (i + 1)) = textsE (l.take i) ++ textE k := by
  unfold textsE
  rw [List.take_add_one, h, List.flatMap_append]; simp
theorem hiE_le (n : Nat) : (hiE n).length <= n := by
  rw [hiE]
  split
  · simp
  · rw [List.length_append]
    have := hiE_le (n / 128)
    simp; omega
termination_by n
decreasing_by omega
theorem textE_len (s : ByteArray) : (textE s).length <= 2 * s.size + 1 := by
  unfold textE numE
  have h1 := hiE_le (s.size / 128)
  have h2 : s.data.toList.length = s.size := by rw [Array.length_toList]; rfl
  rw [List.length_append, List.length_append, h2]
  simp; omega
theorem sumE_cons (s : ByteArray) (l : List ByteArray) : sumE (s :: l) = s.size + sumE l := by simp [sumE]
theorem textsE_len : ∀ l : List ByteArray, (textsE l).length <= 2 * sumE l + l.length
  | [] => by simp [textsE]
  | s :: l => by
    have h1 := textsE_len l
    have h2 := textE_len s
    rw [sumE_cons]
    unfold textsE at h1 ⊢
    rw [List.flatMap_cons, List.length_append, List.length_cons]
    omega
theorem sumE_at : ∀ {l : List ByteArray} {i : Nat} {k : ByteArray}, l[i]? = some k -> sumE (l.take i) + k.size <= sumE l
  | [], i, k, h => by simp at h
  | s :: l, 0, k, h => by
    simp at h
    subst h
    rw [sumE_cons]; simp [sumE]
  | s :: l, i + 1, k, h => by
    have := sumE_at (l := l) (i := i) (k := k) (by simpa using h)
    rw [List.take_succ_cons, sumE_cons, sumE_cons]; omega
set_option maxHeartbeats 4000000 in
theorem putTexts_at {H0 H : Heap} {p : Nat} {ob : Option Nat} {bs : List UInt8} {v : V} {l : List ByteArray} (hr : StrsAt H0 v l) (hk : KeepC H0 H) (hp0 : H0.length <= p) (hb0 : ∀ b, ob = some b -> H0.length <= b) (hw : WrAt H p ob bs)
    (hll : l.length <= 5000) (hl : bs.length + 2 * sumE l + 200000 < 35184372088832) :
    Ev.Ok (D X (.fn 87 []) [.ptr p 0 0, v, .fn 88 []] H) (Wrote p ob (bs ++ numE l.length ++ textsE l) H) := by
  refine Ok.aim fun Q hQ => ?_
  have hQ' := Hid.mk hQ
  clear hQ
  obtain ⟨y1, e1, H1, ob1, rfl, w1, s1⟩ := wNum_at hw (c := (l.length : Int)) (by omega) (by omega)
  rw [Int.toNat_natCast] at w1
  have hnl := numE_len (n := l.length) (by omega)
  have hu := wrapU (n := (l.length : Int)) (by omega)
  obtain ⟨hk1, hb1⟩ := s1.keepC hk hp0 hb0
  have hbl : (bs ++ numE l.length).length <= bs.length + 10 := by rw [List.length_append]; omega
  have hfin : ∀ H2 ob2, WrAt H2 p ob2 (bs ++ numE l.length ++ textsE l) -> WStep p ob1 ob2 H1 H2 -> Q (.tup [], H2) := fun H2 ob2 a c => hQ'.out _ ⟨H2, ob2, rfl, a, s1.trans c⟩
  generalize bs ++ numE l.length = bd at w1 hfin hbl
  have hfin' := Hid.mk hfin
  have hb1' := Hid.mk hb1
  have hk1' := Hid.mk hk1
  clear hfin hQ' hw s1 hk hb0 hb1 hk1 hnl
  obtain ⟨a, cap, z, rfl, h1, _, h2⟩ := hr
  (refine Ok.body body87 pin87 ?_; simp only [c87,Try.f87,Option.getD_some,nslot87,List.append_nil,List.map,List.replicate,List.length_cons,List.length_nil,Nat.reduceAdd,Nat.reduceSub,List.cons_append,List.nil_append])
  (repeat' (first | (simp -implicitDefEqProofs (maxSteps := 1000000) (disch := first | assumption | omega | (simp only [ZDI]; omega)) only [*,lenV,G87,Za,Zb,Zc,Zd,Ze,Zf,Zg,Zh,Zi,Zj,Zk,Zl,Zm,Zn,Zo,Ja,Jb,Jc,J6,Jd,Je,J7,J8,Jf,Jg,Jh,Ji,Jj,Jk,J9,Jl,Jm,wr,Jn,JA,JB,Jo,Jp,Jq,Jr,Js,Jt,Ju,Jv,Jw,Jx,Jy,Jz,J0,J1,J2,J3,J4,J5,reduceCtorEq,JC,JD,JE,JF,JG,JH,JI,JJ]) | ((with_reducible (first | apply Ok.br | apply Ok.gd | apply Ok.ld)) <;> (intro g; (try simp only [ZGS] at g); try (exfalso; omega)))))
  clear e1 hu
  refine Ok.loop [BF, BF, BF, BF, BF, BF, BF, BT, BF, BF, BF, BF, BF, BF, BF, BT, BT, BT, BT, BT, BT, BT, BT, BT] (fun n s2 => ∃ (i : Nat) (ob' : Option Nat), n = l.length - i /\ i <= l.length /\ tv s2.e 15 = .v (.int .i64 i) /\ s2.l = [] /\ WrAt s2.h p ob' (bd ++ textsE (l.take i)) /\ WStep p ob1 ob' H1 s2.h)
    (fun y s2 => y = .exit 0 /\ ∃ (ob' : Option Nat), s2.l = [] /\ WrAt s2.h p ob' (bd ++ textsE l) /\ WStep p ob1 ob' H1 s2.h) (l.length - 0) ⟨0, ob1, rfl, Nat.zero_le _, rfl, rfl, by simpa [textsE] using w1, WStep.refl _ _ _ (by intro h b e; rw [h] at e; cases e)⟩ ?_ ?_
  · intro n ⟨e', l', g⟩ hW ⟨i, ob', hm, hi, h9, k2, hwr, hst⟩
    dsimp only at hW h9 k2 hwr hst
    subst l'
    rw [hW.spread]
    simp only [spread_t,spread_f,spread_n,Nat.zero_add,Nat.reduceAdd,h9]
    clear hW
    by_cases hlt : i < l.length
    · have hlt' : (i : Int) < (l.length : Int) := by omega
      have g1 : 0 <= (i : Int) /\ (i : Int) < (l.length : Int) := by omega
      rcases h2 with rfl | ⟨bb, qq, oo, rw, full, rfl, hbc, hfull⟩
      · simp at hlt
      · obtain ⟨k, hy⟩ : ∃ k, l[i]? = some k := ⟨_, List.getElem?_eq_getElem hlt⟩
        have hf := hfull i _ hy
        have hbc2 := (hst.keepC hk1'.out hp0 hb1'.out).1.2 _ _ _ hbc
        have hrl := textsE_len (l.take i)
        have hsm := sumE_at hy
        rw [List.length_take] at hrl
        obtain ⟨y2, e2, H2, ob2, rfl, w2, s2⟩ := wText_at hwr k (by rw [List.length_append]; omega)
        rw [List.append_assoc, <- textsE_snoc hy] at w2
        have w2' := Hid.mk w2
        have s2' := Hid.mk (hst.trans s2)
        clear hfull hy hbc w2 s2 hwr hst w1 hrl hsm
        (repeat' (first | (simp -implicitDefEqProofs (maxSteps := 1000000) (disch := first | assumption | omega | (simp only [ZDI]; omega)) only [*,lenV,G87,Za,Zb,Zc,Zd,Ze,Zf,Zg,Zh,Zi,Zj,Zk,Zl,Zm,Zn,Zo,Ja,Jb,Jc,J6,Jd,Je,J7,J8,Jf,Jg,Jh,Ji,Jj,Jk,J9,Jl,Jm,wr,Jn,JA,JB,Jo,Jp,Jq,Jr,Js,Jt,Ju,Jv,Jw,Jx,Jy,Jz,J0,J1,J2,J3,J4,J5,reduceCtorEq,JC,JD,JE,JF,JG,JH,JI,JJ]) | ((with_reducible (first | apply Ok.br | apply Ok.gd | apply Ok.ld)) <;> (intro g; (try simp only [ZGS] at g); try (exfalso; omega)))))
        exact Turn.next (l.length - (i + 1)) (by omega) ⟨rfl, i + 1, ob2, rfl, by omega, rfl, rfl, w2'.out, s2'.out⟩
    · have hlt' : ¬ (i : Int) < (l.length : Int) := by omega
      rw [List.take_of_length_le (by omega)] at hwr
      have w2' := Hid.mk hwr
      have s2' := Hid.mk hst
      clear hwr hst w1
      (repeat' (first | (simp -implicitDefEqProofs (maxSteps := 1000000) (disch := first | assumption | omega | (simp only [ZDI]; omega)) only [*,lenV,G87,Za,Zb,Zc,Zd,Ze,Zf,Zg,Zh,Zi,Zj,Zk,Zl,Zm,Zn,Zo,Ja,Jb,Jc,J6,Jd,Je,J7,J8,Jf,Jg,Jh,Ji,Jj,Jk,J9,Jl,Jm,wr,Jn,JA,JB,Jo,Jp,Jq,Jr,Js,Jt,Ju,Jv,Jw,Jx,Jy,Jz,J0,J1,J2,J3,J4,J5,reduceCtorEq,JC,JD,JE,JF,JG,JH,JI,JJ]) | ((with_reducible (first | apply Ok.br | apply Ok.gd | apply Ok.ld)) <;> (intro g; (try simp only [ZGS] at g); try (exfalso; omega)))))
      exact Turn.exit ⟨rfl, rfl, ob', rfl, w2'.out, s2'.out⟩
  · intro y ⟨e', l', g⟩ hW ⟨hy, ob', k2, hwr, hst⟩
    dsimp only at hW k2 hwr hst
    subst l' hy
    rw [hW.spread]
    clear hW
    simp only [spread_t,spread_f,spread_n,Nat.zero_add,Nat.reduceAdd]
    have hq := Hid.mk (hfin'.out _ _ hwr hst)
    clear hwr hst w1
    (repeat' (first | (simp -implicitDefEqProofs (maxSteps := 1000000) (disch := first | assumption | omega | (simp only [ZDI]; omega)) only [*,G87,Za,Zb,Zc,Zd,Ze,Zf,Zg,Zh,Zi,Zj,Zk,Zl,Zm,Zn,Zo,Ja,Jb,Jc,J6,Jd,Je,J7,J8,Jf,Jg,Jh,Ji,Jj,Jk,J9,Jl,Jm,wr,Jn,JA,JB,Jo,Jp,Jq,Jr,Js,Jt,Ju,Jv,Jw,Jx,Jy,Jz,J0,J1,J2,J3,J4,J5,reduceCtorEq,JC,JD,JE,JF,JG,JH,JI,JJ]) | ((with_reducible (first | apply Ok.br | apply Ok.gd | apply Ok.ld)) <;> (intro g; (try simp only [ZGS] at g); try (exfalso; omega)))))
    exact hq.out
end Go.Ev
set_option maxRecDepth 100000
namespace Go.Ev
open Go.Ev renaming exPure -> Ja, ofValue -> Jb, cellsV -> Jc, load -> Jd, store -> Je, binOp -> Jf, intOp -> Jg, rdV -> Jh, vsame -> Ji, vsames -> Jj, makeSliceV -> Jk, resV -> Jl, isCell -> Jm, nilCheckV -> Jn, allV -> Jo, builtinV -> Jp, lenV -> Jq, indexAddrV -> Jr, unOp -> Js, minmaxV -> Jt, minmax -> Ju, sliceV -> Jv, asInt -> Jw, appendV -> Jx, forkB -> Jy, roY -> Jz, rwB -> J0, copyV -> J1, clearV -> J2, convV -> J3, sliceCells -> J4, shift -> J5
open Bool renaming true -> BT, false -> BF
open Nat renaming reduceEqDiff -> J6, reduceLT -> J7, reduceAdd -> J8, reduceBEq -> J9, reduceSub -> JA, reduceMul -> JB, reduceLeDiff -> JJ
open Int renaming reduceLT -> JC, reduceLE -> JD, reduceAdd -> JE, reduceSub -> JF, reduceNeg -> JG, reduceToNat -> JH, reduceEq -> JI
open Go.Proofs
def cmdE (o c q f t : Int) (l : List ByteArray) : List UInt8 := [UInt8.ofNat o.toNat] ++ intE c ++ intE q ++ intE f ++ intE t ++ numE l.length ++ textsE l
set_option maxHeartbeats 8000000 in
theorem cmdLay_at {H0 H : Heap} {p : Nat} {ob : Option Nat} {bs : List UInt8} {v : V} {l : List ByteArray} (hr : StrsAt H0 v l) (hk : KeepC H0 H) (hp0 : H0.length <= p) (hb0 : ∀ b, ob = some b -> H0.length <= b) (hw : WrAt H p ob bs)
    {o c q f t : Int} (ho : 0 <= o /\ o < 256) (hc : In64' c) (hq : In64' q) (hf : In64' f) (ht : In64' t) (hll : l.length <= 5000) (hl : bs.length + 2 * sumE l + 300000 < 35184372088832) :
    Ev.Ok (D X (.fn 62 []) [.ptr p 0 0, .agg [.int .i64 o, .int .i64 c, .int .i64 q, .int .i64 f, .int .i64 t, v]] H) (Wrote p ob (bs ++ cmdE o c q f t l) H) := by
  refine Ok.aim fun Q hQ => ?_
  have hQ' := Hid.mk hQ
  clear hQ
  have l1 := intE_len hc
  have l2 := intE_len hq
  have l3 := intE_len hf
  have l4 := intE_len ht
  obtain ⟨y1, e1, H1, ob1, rfl, w1, s1⟩ := wByte_at hw ho (by omega)
  obtain ⟨y2, e2, H2, ob2, rfl, w2, s2⟩ := wInt_at w1 hc (by simp; omega)
  obtain ⟨y3, e3, H3, ob3, rfl, w3, s3⟩ := wInt_at w2 hq (by simp; omega)
  obtain ⟨y4, e4, H4, ob4, rfl, w4, s4⟩ := wInt_at w3 hf (by simp; omega)
  obtain ⟨y5, e5, H5, ob5, rfl, w5, s5⟩ := wInt_at w4 ht (by simp; omega)
  have s := (((s1.trans s2).trans s3).trans s4).trans s5
  obtain ⟨k1, k2⟩ := s.keepC hk hp0 hb0
  obtain ⟨y6, e6, H6, ob6, rfl, w6, s6⟩ := putTexts_at hr k1 hp0 k2 w5 hll (by simp; omega)
  have hfin : Hid (Q (.tup [], H6)) := ⟨hQ'.out _ ⟨H6, ob6, rfl, by unfold cmdE; simpa using w6, s.trans s6⟩⟩
  have hwr : IntKind.u8.wrap o = o := by
    have := wrap8 o.toNat
    rw [Int.toNat_of_nonneg ho.1] at this
    rw [this]; omega
  clear hw w1 w2 w3 w4 w5 w6 s1 s2 s3 s4 s5 s6 s k1 k2 hr hk hb0 l1 l2 l3 l4 hQ'
  (refine Ok.body body62 pin62 ?_; simp only [c62,Try.f62,Option.getD_some,nslot62,List.append_nil,List.map,List.replicate,List.length_cons,List.length_nil,Nat.reduceAdd,Nat.reduceSub,List.cons_append,List.nil_append])
  (repeat' (first | (simp -implicitDefEqProofs (maxSteps := 1000000) (disch := first | assumption | omega | (simp only [ZDI]; omega)) only [*,lenV,G62,Za,Zb,Zc,Zd,Ze,Zf,Zg,Zh,Zi,Zj,Zk,Zl,Zm,Zn,Zo,Ja,Jb,Jc,J6,Jd,Je,J7,J8,Jf,Jg,Jh,Ji,Jj,Jk,J9,Jl,Jm,wr,Jn,JA,JB,Jo,Jp,Jq,Jr,Js,Jt,Ju,Jv,Jw,Jx,Jy,Jz,J0,J1,J2,J3,J4,J5,reduceCtorEq,JC,JD,JE,JF,JG,JH,JI,JJ]) | ((with_reducible (first | apply Ok.br | apply Ok.gd | apply Ok.ld)) <;> (intro g; (try simp only [ZGS] at g); try (exfalso; omega)))))
  refine Ok.unroll ?_
  (repeat' (first | (simp -implicitDefEqProofs (maxSteps := 1000000) (disch := first | assumption | omega | (simp only [ZDI]; omega)) only [*,lenV,G62,Za,Zb,Zc,Zd,Ze,Zf,Zg,Zh,Zi,Zj,Zk,Zl,Zm,Zn,Zo,Ja,Jb,Jc,J6,Jd,Je,J7,J8,Jf,Jg,Jh,Ji,Jj,Jk,J9,Jl,Jm,wr,Jn,JA,JB,Jo,Jp,Jq,Jr,Js,Jt,Ju,Jv,Jw,Jx,Jy,Jz,J0,J1,J2,J3,J4,J5,reduceCtorEq,JC,JD,JE,JF,JG,JH,JI,JJ]) | ((with_reducible (first | apply Ok.br | apply Ok.gd | apply Ok.ld)) <;> (intro g; (try simp only [ZGS] at g); try (exfalso; omega)))))
  refine Ok.unroll ?_
  (repeat' (first | (simp -implicitDefEqProofs (maxSteps := 1000000) (disch := first | assumption | omega | (simp only [ZDI]; omega)) only [*,lenV,G62,Za,Zb,Zc,Zd,Ze,Zf,Zg,Zh,Zi,Zj,Zk,Zl,Zm,Zn,Zo,Ja,Jb,Jc,J6,Jd,Je,J7,J8,Jf,Jg,Jh,Ji,Jj,Jk,J9,Jl,Jm,wr,Jn,JA,JB,Jo,Jp,Jq,Jr,Js,Jt,Ju,Jv,Jw,Jx,Jy,Jz,J0,J1,J2,J3,J4,J5,reduceCtorEq,JC,JD,JE,JF,JG,JH,JI,JJ]) | ((with_reducible (first | apply Ok.br | apply Ok.gd | apply Ok.ld)) <;> (intro g; (try simp only [ZGS] at g); try (exfalso; omega)))))
  refine Ok.unroll ?_
  (repeat' (first | (simp -implicitDefEqProofs (maxSteps := 1000000) (disch := first | assumption | omega | (simp only [ZDI]; omega)) only [*,lenV,G62,Za,Zb,Zc,Zd,Ze,Zf,Zg,Zh,Zi,Zj,Zk,Zl,Zm,Zn,Zo,Ja,Jb,Jc,J6,Jd,Je,J7,J8,Jf,Jg,Jh,Ji,Jj,Jk,J9,Jl,Jm,wr,Jn,JA,JB,Jo,Jp,Jq,Jr,Js,Jt,Ju,Jv,Jw,Jx,Jy,Jz,J0,J1,J2,J3,J4,J5,reduceCtorEq,JC,JD,JE,JF,JG,JH,JI,JJ]) | ((with_reducible (first | apply Ok.br | apply Ok.gd | apply Ok.ld)) <;> (intro g; (try simp only [ZGS] at g); try (exfalso; omega)))))
  refine Ok.unroll ?_
  (repeat' (first | (simp -implicitDefEqProofs (maxSteps := 1000000) (disch := first | assumption | omega | (simp only [ZDI]; omega)) only [*,lenV,G62,Za,Zb,Zc,Zd,Ze,Zf,Zg,Zh,Zi,Zj,Zk,Zl,Zm,Zn,Zo,Ja,Jb,Jc,J6,Jd,Je,J7,J8,Jf,Jg,Jh,Ji,Jj,Jk,J9,Jl,Jm,wr,Jn,JA,JB,Jo,Jp,Jq,Jr,Js,Jt,Ju,Jv,Jw,Jx,Jy,Jz,J0,J1,J2,J3,J4,J5,reduceCtorEq,JC,JD,JE,JF,JG,JH,JI,JJ]) | ((with_reducible (first | apply Ok.br | apply Ok.gd | apply Ok.ld)) <;> (intro g; (try simp only [ZGS] at g); try (exfalso; omega)))))
  refine Ok.unroll ?_
  (repeat' (first | (simp -implicitDefEqProofs (maxSteps := 1000000) (disch := first | assumption | omega | (simp only [ZDI]; omega)) only [*,lenV,G62,Za,Zb,Zc,Zd,Ze,Zf,Zg,Zh,Zi,Zj,Zk,Zl,Zm,Zn,Zo,Ja,Jb,Jc,J6,Jd,Je,J7,J8,Jf,Jg,Jh,Ji,Jj,Jk,J9,Jl,Jm,wr,Jn,JA,JB,Jo,Jp,Jq,Jr,Js,Jt,Ju,Jv,Jw,Jx,Jy,Jz,J0,J1,J2,J3,J4,J5,reduceCtorEq,JC,JD,JE,JF,JG,JH,JI,JJ]) | ((with_reducible (first | apply Ok.br | apply Ok.gd | apply Ok.ld)) <;> (intro g; (try simp only [ZGS] at g); try (exfalso; omega)))))
  exact hfin.out
end Go.Ev
set_option maxRecDepth 100000
namespace Go.Ev
open Go.Ev renaming exPure -> Ja, ofValue -> Jb, cellsV -> Jc, load -> Jd, store -> Je, binOp -> Jf, intOp -> Jg, rdV -> Jh, vsame -> Ji, vsames -> Jj, makeSliceV -> Jk, resV -> Jl, isCell -> Jm, nilCheckV -> Jn, allV -> Jo, builtinV -> Jp, lenV -> Jq, indexAddrV -> Jr, unOp -> Js, minmaxV -> Jt, minmax -> Ju, sliceV -> Jv, asInt -> Jw, appendV -> Jx, forkB -> Jy, roY -> Jz, rwB -> J0, copyV -> J1, clearV -> J2, convV -> J3, sliceCells -> J4, shift -> J5
open Bool renaming true -> BT, false -> BF
open Nat renaming reduceEqDiff -> J6, reduceLT -> J7, reduceAdd -> J8, reduceBEq -> J9, reduceSub -> JA, reduceMul -> JB, reduceLeDiff -> JJ
open Int renaming reduceLT -> JC, reduceLE -> JD, reduceAdd -> JE, reduceSub -> JF, reduceNeg -> JG, reduceToNat -> JH, reduceEq -> JI
open Go.Proofs
theorem strEq_refl (s : ByteArray) : strEq s s = true := by unfold strEq; simp
theorem strEq_ne {x y : ByteArray} (h : ¬ x = y) : strEq x y = false := by
  unfold strEq
  refine decide_eq_false fun e => h ?_
  cases x with | mk a => cases y with | mk b =>
  cases a with | mk a => cases b with | mk b =>
  simp only at e
  rw [e]
theorem sameRefs_at {h : Heap} {v w : V} {l m : List RP} (hr : RowAt h v l) (hs : RowAt h w m) : D X (.fn 29 []) [v, w] h = some (.bool (decide (l = m)), h) := by
  refine Ok.eq ?_
  refine Ok.aim fun Q hQ => ?_
  have hQ' := Hid.mk hQ
  clear hQ
  obtain ⟨a, cap, z, rfl, h1, h1', h2⟩ := hr
  obtain ⟨a2, cap2, z2, rfl, h3, h3', h4⟩ := hs
  by_cases hlen : l.length = m.length
  · have hlen' : (l.length : Int) = (m.length : Int) := by omega
    (refine Ok.body body29 pin29 ?_; simp only [c29,Try.f29,Option.getD_some,nslot29,List.append_nil,List.map,List.replicate,List.length_cons,List.length_nil,Nat.reduceAdd,Nat.reduceSub,List.cons_append,List.nil_append])
    (repeat' (first | (simp -implicitDefEqProofs (maxSteps := 1000000) (disch := first | assumption | omega | (simp only [ZDI]; omega)) only [*,lenV,G29,Za,Zb,Zc,Zd,Ze,Zf,Zg,Zh,Zi,Zj,Zk,Zl,Zm,Zn,Zo,Ja,Jb,Jc,J6,Jd,Je,J7,J8,Jf,Jg,Jh,Ji,Jj,Jk,J9,Jl,Jm,wr,Jn,JA,JB,Jo,Jp,Jq,Jr,Js,Jt,Ju,Jv,Jw,Jx,Jy,Jz,J0,J1,J2,J3,J4,J5,reduceCtorEq,JC,JD,JE,JF,JG,JH,JI,JJ]) | ((with_reducible (first | apply Ok.br | apply Ok.gd | apply Ok.ld)) <;> (intro g; (try simp only [ZGS] at g); try (exfalso; omega)))))
    refine Ok.loop [BF, BF, BF, BF, BT, BT, BF, BF, BF, BF, BF, BF, BF, BT, BT, BT, BT, BT, BT, BT, BT, BT, BT, BT, BT, BT] (fun n s2 => ∃ (i : Nat), n = l.length - i /\ i <= l.length /\ tv s2.e 13 = .v (.int .i64 i) /\ s2.l = [] /\ s2.h = h /\ l.take i = m.take i)
      (fun y s2 => s2.h = h /\ s2.l = [] /\ ((y = .exit 0 /\ l = m) \/ (y = .ret /\ l ≠ m /\ tv s2.e 4 = .v (.bool false)))) (l.length - 0) ⟨0, rfl, Nat.zero_le _, rfl, rfl, rfl, by simp⟩ ?_ ?_
    · intro n ⟨e', l', H'⟩ hW ⟨i, hm, hi, h9, k2, k3, hno⟩
      dsimp only at hW h9 k2 k3
      subst l' H'
      rw [hW.spread]
      simp only [spread_t,spread_f,spread_n,Nat.zero_add,Nat.reduceAdd,h9]
      clear hW hQ'
      have hno' := Hid.mk hno
      clear hno
      by_cases hlt : i < l.length
      · have hlt' : (i : Int) < (m.length : Int) := by omega
        have g1 : 0 <= (i : Int) /\ (i : Int) < (m.length : Int) := by omega
        rcases h2 with rfl | ⟨b, g, o, rw, full, rfl, hb, hfull, ho⟩
        · simp at hlt
        · rcases h4 with rfl | ⟨b2, g2, o2, rw2, full2, rfl, hb2, hfull2, ho2⟩
          · simp at hlen; subst hlen; simp at hlt
          · obtain ⟨y, hy⟩ : ∃ y, l[i]? = some y := ⟨_, List.getElem?_eq_getElem hlt⟩
            obtain ⟨x, hx⟩ : ∃ y, m[i]? = some y := ⟨_, List.getElem?_eq_getElem (by omega)⟩
            have hf := hfull i y hy
            have hf2 := hfull2 i x hx
            have hy' := Hid.mk hy
            have hx' := Hid.mk hx
            clear hy hfull hx hfull2
            by_cases hxy : y = x
            · subst hxy
              (repeat' (first | (simp -implicitDefEqProofs (maxSteps := 1000000) (disch := first | assumption | omega | (simp only [ZDI]; omega)) only [*,lenV,eq_self,G29,Za,Zb,Zc,Zd,Ze,Zf,Zg,Zh,Zi,Zj,Zk,Zl,Zm,Zn,Zo,Ja,Jb,Jc,J6,Jd,Je,J7,J8,Jf,Jg,Jh,Ji,Jj,Jk,J9,Jl,Jm,wr,Jn,JA,JB,Jo,Jp,Jq,Jr,Js,Jt,Ju,Jv,Jw,Jx,Jy,Jz,J0,J1,J2,J3,J4,J5,reduceCtorEq,JC,JD,JE,JF,JG,JH,JI,JJ]) | ((with_reducible (first | apply Ok.br | apply Ok.gd | apply Ok.ld)) <;> (intro g; (try simp only [ZGS] at g); try (exfalso; omega)))))
              refine Turn.next (l.length - (i + 1)) (by omega) ⟨rfl, i + 1, by omega, by omega, rfl, rfl, rfl, ?_⟩
              rw [List.take_add_one, List.take_add_one, hy'.out, hx'.out, hno'.out]
            · have hnx : ∀ P : Prop, (¬ y.1 = x.1 -> P) -> (y.1 = x.1 -> ¬ y.2 = x.2 -> P) -> P := fun P p q => by
                by_cases h1 : y.1 = x.1
                · exact q h1 fun h2 => hxy (Prod.ext h1 h2)
                · exact p h1
              have hno2 : l ≠ m := by
                rintro rfl
                have := hy'.out
                rw [hx'.out] at this
                exact hxy (Option.some.inj this).symm
              have hno3 := Hid.mk hno2
              clear hno2 hxy
              apply hnx <;> clear hnx
              · intro hn1
                (repeat' (first | (simp -implicitDefEqProofs (maxSteps := 1000000) (disch := first | assumption | omega | (simp only [ZDI]; omega)) only [*,lenV,G29,Za,Zb,Zc,Zd,Ze,Zf,Zg,Zh,Zi,Zj,Zk,Zl,Zm,Zn,Zo,Ja,Jb,Jc,J6,Jd,Je,J7,J8,Jf,Jg,Jh,Ji,Jj,Jk,J9,Jl,Jm,wr,Jn,JA,JB,Jo,Jp,Jq,Jr,Js,Jt,Ju,Jv,Jw,Jx,Jy,Jz,J0,J1,J2,J3,J4,J5,reduceCtorEq,JC,JD,JE,JF,JG,JH,JI,JJ]) | ((with_reducible (first | apply Ok.br | apply Ok.gd | apply Ok.ld)) <;> (intro g; (try simp only [ZGS] at g); try (exfalso; omega)))))
                exact Turn.ret ⟨rfl, rfl, rfl, .inr ⟨rfl, hno3.out, rfl⟩⟩
              · intro hn1 hn2
                (repeat' (first | (simp -implicitDefEqProofs (maxSteps := 1000000) (disch := first | assumption | omega | (simp only [ZDI]; omega)) only [*,lenV,G29,Za,Zb,Zc,Zd,Ze,Zf,Zg,Zh,Zi,Zj,Zk,Zl,Zm,Zn,Zo,Ja,Jb,Jc,J6,Jd,Je,J7,J8,Jf,Jg,Jh,Ji,Jj,Jk,J9,Jl,Jm,wr,Jn,JA,JB,Jo,Jp,Jq,Jr,Js,Jt,Ju,Jv,Jw,Jx,Jy,Jz,J0,J1,J2,J3,J4,J5,reduceCtorEq,JC,JD,JE,JF,JG,JH,JI,JJ]) | ((with_reducible (first | apply Ok.br | apply Ok.gd | apply Ok.ld)) <;> (intro g; (try simp only [ZGS] at g); try (exfalso; omega)))))
                exact Turn.ret ⟨rfl, rfl, rfl, .inr ⟨rfl, hno3.out, rfl⟩⟩
      · have hlt' : ¬ (i : Int) < (m.length : Int) := by omega
        (repeat' (first | (simp -implicitDefEqProofs (maxSteps := 1000000) (disch := first | assumption | omega | (simp only [ZDI]; omega)) only [*,lenV,G29,Za,Zb,Zc,Zd,Ze,Zf,Zg,Zh,Zi,Zj,Zk,Zl,Zm,Zn,Zo,Ja,Jb,Jc,J6,Jd,Je,J7,J8,Jf,Jg,Jh,Ji,Jj,Jk,J9,Jl,Jm,wr,Jn,JA,JB,Jo,Jp,Jq,Jr,Js,Jt,Ju,Jv,Jw,Jx,Jy,Jz,J0,J1,J2,J3,J4,J5,reduceCtorEq,JC,JD,JE,JF,JG,JH,JI,JJ]) | ((with_reducible (first | apply Ok.br | apply Ok.gd | apply Ok.ld)) <;> (intro g; (try simp only [ZGS] at g); try (exfalso; omega)))))
        refine Turn.exit ⟨rfl, rfl, rfl, .inl ⟨rfl, ?_⟩⟩
        have := hno'.out
        rwa [List.take_of_length_le (by omega), List.take_of_length_le (by omega)] at this
    · intro y ⟨e', l', H'⟩ hW ⟨k3, k2, hy⟩
      dsimp only at hW k2 k3 hy
      subst l' H'
      rw [hW.spread]
      clear hW
      rcases hy with ⟨rfl, hm⟩ | ⟨rfl, hm, h4⟩
      · simp only [spread_t,spread_f,spread_n,Nat.zero_add,Nat.reduceAdd]
        (repeat' (first | (simp -implicitDefEqProofs (maxSteps := 1000000) (disch := first | assumption | omega | (simp only [ZDI]; omega)) only [*,G29,Za,Zb,Zc,Zd,Ze,Zf,Zg,Zh,Zi,Zj,Zk,Zl,Zm,Zn,Zo,Ja,Jb,Jc,J6,Jd,Je,J7,J8,Jf,Jg,Jh,Ji,Jj,Jk,J9,Jl,Jm,wr,Jn,JA,JB,Jo,Jp,Jq,Jr,Js,Jt,Ju,Jv,Jw,Jx,Jy,Jz,J0,J1,J2,J3,J4,J5,reduceCtorEq,JC,JD,JE,JF,JG,JH,JI,JJ]) | ((with_reducible (first | apply Ok.br | apply Ok.gd | apply Ok.ld)) <;> (intro g; (try simp only [ZGS] at g); try (exfalso; omega)))))
        exact hQ'.out _ (by rw [decide_eq_true hm])
      · simp only [spread_t,spread_f,spread_n,Nat.zero_add,Nat.reduceAdd,h4]
        (repeat' (first | (simp -implicitDefEqProofs (maxSteps := 1000000) (disch := first | assumption | omega | (simp only [ZDI]; omega)) only [*,G29,Za,Zb,Zc,Zd,Ze,Zf,Zg,Zh,Zi,Zj,Zk,Zl,Zm,Zn,Zo,Ja,Jb,Jc,J6,Jd,Je,J7,J8,Jf,Jg,Jh,Ji,Jj,Jk,J9,Jl,Jm,wr,Jn,JA,JB,Jo,Jp,Jq,Jr,Js,Jt,Ju,Jv,Jw,Jx,Jy,Jz,J0,J1,J2,J3,J4,J5,reduceCtorEq,JC,JD,JE,JF,JG,JH,JI,JJ]) | ((with_reducible (first | apply Ok.br | apply Ok.gd | apply Ok.ld)) <;> (intro g; (try simp only [ZGS] at g); try (exfalso; omega)))))
        exact hQ'.out _ (by rw [decide_eq_false hm])
  · have hlen' : ¬ (l.length : Int) = (m.length : Int) := by omega
    (refine Ok.body body29 pin29 ?_; simp only [c29,Try.f29,Option.getD_some,nslot29,List.append_nil,List.map,List.replicate,List.length_cons,List.length_nil,Nat.reduceAdd,Nat.reduceSub,List.cons_append,List.nil_append])
    (repeat' (first | (simp -implicitDefEqProofs (maxSteps := 1000000) (disch := first | assumption | omega | (simp only [ZDI]; omega)) only [*,lenV,G29,Za,Zb,Zc,Zd,Ze,Zf,Zg,Zh,Zi,Zj,Zk,Zl,Zm,Zn,Zo,Ja,Jb,Jc,J6,Jd,Je,J7,J8,Jf,Jg,Jh,Ji,Jj,Jk,J9,Jl,Jm,wr,Jn,JA,JB,Jo,Jp,Jq,Jr,Js,Jt,Ju,Jv,Jw,Jx,Jy,Jz,J0,J1,J2,J3,J4,J5,reduceCtorEq,JC,JD,JE,JF,JG,JH,JI,JJ]) | ((with_reducible (first | apply Ok.br | apply Ok.gd | apply Ok.ld)) <;> (intro g; (try simp only [ZGS] at g); try (exfalso; omega)))))
    exact hQ'.out _ (by rw [decide_eq_false]; rintro rfl; exact hlen rfl)
theorem rSameCmdEq_at {h : Heap} {o c q f t : Int} {v w : V} {l m : List ByteArray} (hr : StrsAt h v l) (hs : StrsAt h w m) : D X (.fn 50 []) [.agg [.int .i64 o, .int .i64 c, .int .i64 q, .int .i64 f, .int .i64 t, v], .agg [.int .i64 o, .int .i64 c, .int .i64 q, .int .i64 f, .int .i64 t, w]] h = some (.bool (decide (l = m)), h) := by
  refine Ok.eq ?_
  refine Ok.aim fun Q hQ => ?_
  have hQ' := Hid.mk hQ
  clear hQ
  obtain ⟨a, cap, z, rfl, h1, _, h2⟩ := hr
  obtain ⟨a2, cap2, z2, rfl, h3, _, h4⟩ := hs
  by_cases hlen : l.length = m.length
  · rw [hlen]
    have h2' := Hid.mk h2
    have h4' := Hid.mk h4
    clear h2 h4
    (refine Ok.body body50 pin50 ?_; simp only [c50,Try.f50,Option.getD_some,nslot50,List.append_nil,List.map,List.replicate,List.length_cons,List.length_nil,Nat.reduceAdd,Nat.reduceSub,List.cons_append,List.nil_append])
    (repeat' (first | (simp -implicitDefEqProofs (maxSteps := 1000000) (disch := first | assumption | omega | (simp only [ZDI]; omega)) only [*,lenV,eq_self,G50,Za,Zb,Zc,Zd,Ze,Zf,Zg,Zh,Zi,Zj,Zk,Zl,Zm,Zn,Zo,Ja,Jb,Jc,J6,Jd,Je,J7,J8,Jf,Jg,Jh,Ji,Jj,Jk,J9,Jl,Jm,wr,Jn,JA,JB,Jo,Jp,Jq,Jr,Js,Jt,Ju,Jv,Jw,Jx,Jy,Jz,J0,J1,J2,J3,J4,J5,reduceCtorEq,JC,JD,JE,JF,JG,JH,JI,JJ]) | ((with_reducible (first | apply Ok.br | apply Ok.gd | apply Ok.ld)) <;> (intro g; (try simp only [ZGS] at g); try (exfalso; omega)))))
    refine Ok.loop [BF, BF, BF, BF, BT, BT, BF, BF, BF, BF, BF, BF, BF, BF, BF, BF, BF, BF, BF, BF, BF, BF, BF, BF, BF, BF, BF, BF, BF, BF, BF, BF, BF, BF, BF, BF, BF, BF, BF, BF, BF, BF, BF, BF, BF, BF, BF, BF, BF, BF, BF, BT, BT, BT, BT, BT, BT, BT, BT, BT, BT, BT, BT, BT, BT, BT] (fun n s2 => ∃ (i : Nat), n = l.length - i /\ i <= l.length /\ tv s2.e 51 = .v (.int .i64 i) /\ s2.l = [(1, [.int .i64 o, .int .i64 c, .int .i64 q, .int .i64 f, .int .i64 t, .sl a m.length cap z]), (1, [.int .i64 o, .int .i64 c, .int .i64 q, .int .i64 f, .int .i64 t, .sl a2 m.length cap2 z2])] /\ s2.h = h /\ l.take i = m.take i)
      (fun y s2 => s2.h = h /\ s2.l = [(1, [.int .i64 o, .int .i64 c, .int .i64 q, .int .i64 f, .int .i64 t, .sl a m.length cap z]), (1, [.int .i64 o, .int .i64 c, .int .i64 q, .int .i64 f, .int .i64 t, .sl a2 m.length cap2 z2])] /\ ((y = .exit 0 /\ l = m) \/ (y = .ret /\ l ≠ m /\ tv s2.e 4 = .v (.bool false)))) (l.length - 0) ⟨0, rfl, Nat.zero_le _, rfl, rfl, rfl, by simp⟩ ?_ ?_
    · intro n ⟨e', l', H'⟩ hW ⟨i, hm, hi, h9, k2, k3, hno⟩
      dsimp only at hW h9 k2 k3
      subst l' H'
      rw [hW.spread]
      simp only [spread_t,spread_f,spread_n,Nat.zero_add,Nat.reduceAdd,h9]
      clear hW hQ'
      have hno' := Hid.mk hno
      clear hno
      by_cases hlt : i < l.length
      · have hlt' : (i : Int) < (m.length : Int) := by omega
        rcases h2'.out with rfl | ⟨b, g, oo, rw, full, rfl, hb, hfull⟩
        · simp at hlt
        · rcases h4'.out with rfl | ⟨b2, g2, o2, rw2, full2, rfl, hb2, hfull2⟩
          · simp at hlen; subst hlen; simp at hlt
          · obtain ⟨y, hy⟩ : ∃ y, l[i]? = some y := ⟨_, List.getElem?_eq_getElem hlt⟩
            obtain ⟨x, hx⟩ : ∃ y, m[i]? = some y := ⟨_, List.getElem?_eq_getElem (by omega)⟩
            have hf := hfull i y hy
            have hf2 := hfull2 i x hx
            have hy' := Hid.mk hy
            have hx' := Hid.mk hx
            clear hy hfull hx hfull2
            by_cases hxy : y = x
            · subst hxy
              (repeat' (first | (simp -implicitDefEqProofs (maxSteps := 1000000) (disch := first | assumption | omega | (simp only [ZDI]; omega)) only [*,lenV,strEq_refl,G50,Za,Zb,Zc,Zd,Ze,Zf,Zg,Zh,Zi,Zj,Zk,Zl,Zm,Zn,Zo,Ja,Jb,Jc,J6,Jd,Je,J7,J8,Jf,Jg,Jh,Ji,Jj,Jk,J9,Jl,Jm,wr,Jn,JA,JB,Jo,Jp,Jq,Jr,Js,Jt,Ju,Jv,Jw,Jx,Jy,Jz,J0,J1,J2,J3,J4,J5,reduceCtorEq,JC,JD,JE,JF,JG,JH,JI,JJ]) | ((with_reducible (first | apply Ok.br | apply Ok.gd | apply Ok.ld)) <;> (intro g; (try simp only [ZGS] at g); try (exfalso; omega)))))
              refine Turn.next (l.length - (i + 1)) (by omega) ⟨rfl, i + 1, by omega, by omega, rfl, rfl, rfl, ?_⟩
              rw [List.take_add_one, List.take_add_one, hy'.out, hx'.out, hno'.out]
            · have hno2 : l ≠ m := by
                rintro rfl
                have := hy'.out
                rw [hx'.out] at this
                exact hxy (Option.some.inj this).symm
              have hno3 := Hid.mk hno2
              have hse := strEq_ne hxy
              clear hno2 hxy
              (repeat' (first | (simp -implicitDefEqProofs (maxSteps := 1000000) (disch := first | assumption | omega | (simp only [ZDI]; omega)) only [*,lenV,G50,Za,Zb,Zc,Zd,Ze,Zf,Zg,Zh,Zi,Zj,Zk,Zl,Zm,Zn,Zo,Ja,Jb,Jc,J6,Jd,Je,J7,J8,Jf,Jg,Jh,Ji,Jj,Jk,J9,Jl,Jm,wr,Jn,JA,JB,Jo,Jp,Jq,Jr,Js,Jt,Ju,Jv,Jw,Jx,Jy,Jz,J0,J1,J2,J3,J4,J5,reduceCtorEq,JC,JD,JE,JF,JG,JH,JI,JJ]) | ((with_reducible (first | apply Ok.br | apply Ok.gd | apply Ok.ld)) <;> (intro g; (try simp only [ZGS] at g); try (exfalso; omega)))))
              exact Turn.ret ⟨rfl, rfl, rfl, .inr ⟨rfl, hno3.out, rfl⟩⟩
      · have hlt' : ¬ (i : Int) < (m.length : Int) := by omega
        (repeat' (first | (simp -implicitDefEqProofs (maxSteps := 1000000) (disch := first | assumption | omega | (simp only [ZDI]; omega)) only [*,lenV,G50,Za,Zb,Zc,Zd,Ze,Zf,Zg,Zh,Zi,Zj,Zk,Zl,Zm,Zn,Zo,Ja,Jb,Jc,J6,Jd,Je,J7,J8,Jf,Jg,Jh,Ji,Jj,Jk,J9,Jl,Jm,wr,Jn,JA,JB,Jo,Jp,Jq,Jr,Js,Jt,Ju,Jv,Jw,Jx,Jy,Jz,J0,J1,J2,J3,J4,J5,reduceCtorEq,JC,JD,JE,JF,JG,JH,JI,JJ]) | ((with_reducible (first | apply Ok.br | apply Ok.gd | apply Ok.ld)) <;> (intro g; (try simp only [ZGS] at g); try (exfalso; omega)))))
        refine Turn.exit ⟨rfl, rfl, rfl, .inl ⟨rfl, ?_⟩⟩
        have := hno'.out
        rwa [List.take_of_length_le (by omega), List.take_of_length_le (by omega)] at this
    · intro y ⟨e', l', H'⟩ hW ⟨k3, k2, hy⟩
      dsimp only at hW k2 k3 hy
      subst l' H'
      rw [hW.spread]
      clear hW
      rcases hy with ⟨rfl, hm⟩ | ⟨rfl, hm, h4⟩
      · simp only [spread_t,spread_f,spread_n,Nat.zero_add,Nat.reduceAdd]
        (repeat' (first | (simp -implicitDefEqProofs (maxSteps := 1000000) (disch := first | assumption | omega | (simp only [ZDI]; omega)) only [*,G50,Za,Zb,Zc,Zd,Ze,Zf,Zg,Zh,Zi,Zj,Zk,Zl,Zm,Zn,Zo,Ja,Jb,Jc,J6,Jd,Je,J7,J8,Jf,Jg,Jh,Ji,Jj,Jk,J9,Jl,Jm,wr,Jn,JA,JB,Jo,Jp,Jq,Jr,Js,Jt,Ju,Jv,Jw,Jx,Jy,Jz,J0,J1,J2,J3,J4,J5,reduceCtorEq,JC,JD,JE,JF,JG,JH,JI,JJ]) | ((with_reducible (first | apply Ok.br | apply Ok.gd | apply Ok.ld)) <;> (intro g; (try simp only [ZGS] at g); try (exfalso; omega)))))
        exact hQ'.out _ (by rw [decide_eq_true hm])
      · simp only [spread_t,spread_f,spread_n,Nat.zero_add,Nat.reduceAdd,h4]
        (repeat' (first | (simp -implicitDefEqProofs (maxSteps := 1000000) (disch := first | assumption | omega | (simp only [ZDI]; omega)) only [*,G50,Za,Zb,Zc,Zd,Ze,Zf,Zg,Zh,Zi,Zj,Zk,Zl,Zm,Zn,Zo,Ja,Jb,Jc,J6,Jd,Je,J7,J8,Jf,Jg,Jh,Ji,Jj,Jk,J9,Jl,Jm,wr,Jn,JA,JB,Jo,Jp,Jq,Jr,Js,Jt,Ju,Jv,Jw,Jx,Jy,Jz,J0,J1,J2,J3,J4,J5,reduceCtorEq,JC,JD,JE,JF,JG,JH,JI,JJ]) | ((with_reducible (first | apply Ok.br | apply Ok.gd | apply Ok.ld)) <;> (intro g; (try simp only [ZGS] at g); try (exfalso; omega)))))
        exact hQ'.out _ (by rw [decide_eq_false hm])
  · have hlen' : ¬ (l.length : Int) = (m.length : Int) := by omega
    (refine Ok.body body50 pin50 ?_; simp only [c50,Try.f50,Option.getD_some,nslot50,List.append_nil,List.map,List.replicate,List.length_cons,List.length_nil,Nat.reduceAdd,Nat.reduceSub,List.cons_append,List.nil_append])
    (repeat' (first | (simp -implicitDefEqProofs (maxSteps := 1000000) (disch := first | assumption | omega | (simp only [ZDI]; omega)) only [*,lenV,eq_self,G50,Za,Zb,Zc,Zd,Ze,Zf,Zg,Zh,Zi,Zj,Zk,Zl,Zm,Zn,Zo,Ja,Jb,Jc,J6,Jd,Je,J7,J8,Jf,Jg,Jh,Ji,Jj,Jk,J9,Jl,Jm,wr,Jn,JA,JB,Jo,Jp,Jq,Jr,Js,Jt,Ju,Jv,Jw,Jx,Jy,Jz,J0,J1,J2,J3,J4,J5,reduceCtorEq,JC,JD,JE,JF,JG,JH,JI,JJ]) | ((with_reducible (first | apply Ok.br | apply Ok.gd | apply Ok.ld)) <;> (intro g; (try simp only [ZGS] at g); try (exfalso; omega)))))
    exact hQ'.out _ (by rw [decide_eq_false]; rintro rfl; exact hlen rfl)
end Go.Ev
set_option maxRecDepth 100000
namespace Go.Ev
open Go.Ev renaming exPure -> Ja, ofValue -> Jb, cellsV -> Jc, load -> Jd, store -> Je, binOp -> Jf, intOp -> Jg, rdV -> Jh, vsame -> Ji, vsames -> Jj, makeSliceV -> Jk, resV -> Jl, isCell -> Jm, nilCheckV -> Jn, allV -> Jo, builtinV -> Jp, lenV -> Jq, indexAddrV -> Jr, unOp -> Js, minmaxV -> Jt, minmax -> Ju, sliceV -> Jv, asInt -> Jw, appendV -> Jx, forkB -> Jy, roY -> Jz, rwB -> J0, copyV -> J1, clearV -> J2, convV -> J3, sliceCells -> J4, shift -> J5
open Bool renaming true -> BT, false -> BF
open Nat renaming reduceEqDiff -> J6, reduceLT -> J7, reduceAdd -> J8, reduceBEq -> J9, reduceSub -> JA, reduceMul -> JB, reduceLeDiff -> JJ
open Int renaming reduceLT -> JC, reduceLE -> JD, reduceAdd -> JE, reduceSub -> JF, reduceNeg -> JG, reduceToNat -> JH, reduceEq -> JI
open Go.Proofs Go.Sort
end Go.Ev
set_option maxRecDepth 100000
namespace Go.Ev
open Go.Ev renaming exPure -> Ja, ofValue -> Jb, cellsV -> Jc, load -> Jd, store -> Je, binOp -> Jf, intOp -> Jg, rdV -> Jh, vsame -> Ji, vsames -> Jj, makeSliceV -> Jk, resV -> Jl, isCell -> Jm, nilCheckV -> Jn, allV -> Jo, builtinV -> Jp, lenV -> Jq, indexAddrV -> Jr, unOp -> Js, minmaxV -> Jt, minmax -> Ju, sliceV -> Jv, asInt -> Jw, appendV -> Jx, forkB -> Jy, roY -> Jz, rwB -> J0, copyV -> J1, clearV -> J2, convV -> J3, sliceCells -> J4, shift -> J5
open Bool renaming true -> BT, false -> BF
open Nat renaming reduceEqDiff -> J6, reduceLT -> J7, reduceAdd -> J8, reduceBEq -> J9, reduceSub -> JA, reduceMul -> JB, reduceLeDiff -> JJ
open Int renaming reduceLT -> JC, reduceLE -> JD, reduceAdd -> JE, reduceSub -> JF, reduceNeg -> JG, reduceToNat -> JH, reduceEq -> JI
open Go.Proofs
structure In where
  (l i bn bd vn vd st : Int) (sm : Bool) (o c q f t : Int) (dv : V) (dl : List ByteArray) (sq : Int) (pv : V) (pl : List RP)
def cmV (o c q f t : Int) (v : V) : List V := [.int .i64 o, .int .i64 c, .int .i64 q, .int .i64 f, .int .i64 t, v]
def inV (x : In) : List V := [.int .i64 x.l, .int .i64 x.i, .int .i64 x.bn, .int .i64 x.bd, .int .i64 x.vn, .int .i64 x.vd, .int .i64 x.st, .bool x.sm, .int .i64 x.o, .int .i64 x.c, .int .i64 x.q, .int .i64 x.f, .int .i64 x.t, x.dv, .int .i64 x.sq, x.pv]
def InAt (h : Heap) (x : In) : Prop := StrsAt h x.dv x.dl /\ RowAt h x.pv x.pl
theorem StrsAt.sl {h : Heap} {v : V} {l : List ByteArray} (hs : StrsAt h v l) : ∃ a cap z, v = .sl a l.length cap z := let ⟨a, cap, z, e, _⟩ := hs; ⟨a, cap, z, e⟩
theorem RowAt.sl {h : Heap} {v : V} {l : List RP} (hs : RowAt h v l) : ∃ a cap z, v = .sl a l.length cap z := let ⟨a, cap, z, e, _⟩ := hs; ⟨a, cap, z, e⟩
theorem less_at (x y : RP) (h : Heap) : D X (.fn 78 []) [.agg [.int .i64 x.1, .int .i64 x.2], .agg [.int .i64 y.1, .int .i64 y.2]] h = some (.bool (ltR x y), h) := by
  refine Ok.eq ?_
  obtain ⟨x1, x2⟩ := x
  obtain ⟨y1, y2⟩ := y
  unfold ltR
  by_cases h1 : x1 = y1
  · by_cases h2 : x2 < y2
    · (refine Ok.body body78 pin78 ?_; simp only [c78,Try.f78,Option.getD_some,nslot78,List.append_nil,List.map,List.replicate,List.length_cons,List.length_nil,Nat.reduceAdd,Nat.reduceSub,List.cons_append,List.nil_append])
      (repeat' (first | (simp -implicitDefEqProofs (maxSteps := 1000000) (disch := first | assumption | omega | (simp only [ZDI]; omega)) only [*,lenV,G78,Za,Zb,Zc,Zd,Ze,Zf,Zg,Zh,Zi,Zj,Zk,Zl,Zm,Zn,Zo,Ja,Jb,Jc,J6,Jd,Je,J7,J8,Jf,Jg,Jh,Ji,Jj,Jk,J9,Jl,Jm,wr,Jn,JA,JB,Jo,Jp,Jq,Jr,Js,Jt,Ju,Jv,Jw,Jx,Jy,Jz,J0,J1,J2,J3,J4,J5,reduceCtorEq,JC,JD,JE,JF,JG,JH,JI,JJ]) | ((with_reducible (first | apply Ok.br | apply Ok.gd | apply Ok.ld)) <;> (intro g; (try simp only [ZGS] at g); try (exfalso; omega)))))
      all_goals simp [*]
    · (refine Ok.body body78 pin78 ?_; simp only [c78,Try.f78,Option.getD_some,nslot78,List.append_nil,List.map,List.replicate,List.length_cons,List.length_nil,Nat.reduceAdd,Nat.reduceSub,List.cons_append,List.nil_append])
      (repeat' (first | (simp -implicitDefEqProofs (maxSteps := 1000000) (disch := first | assumption | omega | (simp only [ZDI]; omega)) only [*,lenV,G78,Za,Zb,Zc,Zd,Ze,Zf,Zg,Zh,Zi,Zj,Zk,Zl,Zm,Zn,Zo,Ja,Jb,Jc,J6,Jd,Je,J7,J8,Jf,Jg,Jh,Ji,Jj,Jk,J9,Jl,Jm,wr,Jn,JA,JB,Jo,Jp,Jq,Jr,Js,Jt,Ju,Jv,Jw,Jx,Jy,Jz,J0,J1,J2,J3,J4,J5,reduceCtorEq,JC,JD,JE,JF,JG,JH,JI,JJ]) | ((with_reducible (first | apply Ok.br | apply Ok.gd | apply Ok.ld)) <;> (intro g; (try simp only [ZGS] at g); try (exfalso; omega)))))
      all_goals simp [*]
  · by_cases h2 : x1 < y1
    · (refine Ok.body body78 pin78 ?_; simp only [c78,Try.f78,Option.getD_some,nslot78,List.append_nil,List.map,List.replicate,List.length_cons,List.length_nil,Nat.reduceAdd,Nat.reduceSub,List.cons_append,List.nil_append])
      (repeat' (first | (simp -implicitDefEqProofs (maxSteps := 1000000) (disch := first | assumption | omega | (simp only [ZDI]; omega)) only [*,lenV,G78,Za,Zb,Zc,Zd,Ze,Zf,Zg,Zh,Zi,Zj,Zk,Zl,Zm,Zn,Zo,Ja,Jb,Jc,J6,Jd,Je,J7,J8,Jf,Jg,Jh,Ji,Jj,Jk,J9,Jl,Jm,wr,Jn,JA,JB,Jo,Jp,Jq,Jr,Js,Jt,Ju,Jv,Jw,Jx,Jy,Jz,J0,J1,J2,J3,J4,J5,reduceCtorEq,JC,JD,JE,JF,JG,JH,JI,JJ]) | ((with_reducible (first | apply Ok.br | apply Ok.gd | apply Ok.ld)) <;> (intro g; (try simp only [ZGS] at g); try (exfalso; omega)))))
      all_goals simp [*]
    · (refine Ok.body body78 pin78 ?_; simp only [c78,Try.f78,Option.getD_some,nslot78,List.append_nil,List.map,List.replicate,List.length_cons,List.length_nil,Nat.reduceAdd,Nat.reduceSub,List.cons_append,List.nil_append])
      (repeat' (first | (simp -implicitDefEqProofs (maxSteps := 1000000) (disch := first | assumption | omega | (simp only [ZDI]; omega)) only [*,lenV,G78,Za,Zb,Zc,Zd,Ze,Zf,Zg,Zh,Zi,Zj,Zk,Zl,Zm,Zn,Zo,Ja,Jb,Jc,J6,Jd,Je,J7,J8,Jf,Jg,Jh,Ji,Jj,Jk,J9,Jl,Jm,wr,Jn,JA,JB,Jo,Jp,Jq,Jr,Js,Jt,Ju,Jv,Jw,Jx,Jy,Jz,J0,J1,J2,J3,J4,J5,reduceCtorEq,JC,JD,JE,JF,JG,JH,JI,JJ]) | ((with_reducible (first | apply Ok.br | apply Ok.gd | apply Ok.ld)) <;> (intro g; (try simp only [ZGS] at g); try (exfalso; omega)))))
      all_goals simp [*]
def refP (l i : Int) : Prop := 0 <= l /\ l < 7 /\ 1 <= i /\ i <= 1073741824
instance (l i : Int) : Decidable (refP l i) := by unfold refP; infer_instance
def balP (n d : Int) : Prop := 0 <= n /\ n <= 1073741824 /\ 0 <= d /\ d < 7
instance (n d : Int) : Decidable (balP n d) := by unfold balP; infer_instance
def lsP (a b c d : Int) : Prop := a < c \/ (a = c /\ b < d)
instance (a b c d : Int) : Decidable (lsP a b c d) := by unfold lsP; infer_instance
def smC (o c q f t o' c' q' f' t' : Int) : Prop := o = o' /\ c = c' /\ q = q' /\ f = f' /\ t = t'
instance (o c q f t o' c' q' f' t' : Int) : Decidable (smC o c q f t o' c' q' f' t') := by unfold smC; infer_instance
theorem truth (P : Prop) [Decidable P] : ∃ b, decide P = b /\ Hid (P -> b = true) /\ Hid (¬ P -> b = false) := ⟨decide P, rfl, ⟨fun h => decide_eq_true h⟩, ⟨fun h => decide_eq_false h⟩⟩
theorem rSameCmd_at {h : Heap} {o c q f t o' c' q' f' t' : Int} {v w : V} {l m : List ByteArray} (hr : StrsAt h v l) (hs : StrsAt h w m) :
    D X (.fn 50 []) [.agg [.int .i64 o, .int .i64 c, .int .i64 q, .int .i64 f, .int .i64 t, v], .agg [.int .i64 o', .int .i64 c', .int .i64 q', .int .i64 f', .int .i64 t', w]] h = some (.bool (decide (smC o c q f t o' c' q' f' t') && decide (l = m)), h) := by
  by_cases hsm : smC o c q f t o' c' q' f' t'
  · rw [decide_eq_true hsm, Bool.true_and]
    obtain ⟨rfl, rfl, rfl, rfl, rfl⟩ := hsm
    exact rSameCmdEq_at hr hs
  · rw [decide_eq_false hsm, Bool.false_and]
    refine Ok.eq ?_
    obtain ⟨a, cap, z, rfl⟩ := hr.sl
    obtain ⟨a2, cap2, z2, rfl⟩ := hs.sl
    clear hr hs
    unfold smC at hsm
    have key : ∀ P : Prop, (¬ o = o' -> P) -> (o = o' -> ¬ c = c' -> P) -> (o = o' -> c = c' -> ¬ q = q' -> P) -> (o = o' -> c = c' -> q = q' -> ¬ f = f' -> P) -> (o = o' -> c = c' -> q = q' -> f = f' -> ¬ t = t' -> P) -> P := by
      intro P p1 p2 p3 p4 p5
      by_cases h1 : o = o'
      · by_cases h2 : c = c'
        · by_cases h3 : q = q'
          · by_cases h4 : f = f'
            · exact p5 h1 h2 h3 h4 fun h5 => hsm ⟨h1, h2, h3, h4, h5⟩
            · exact p4 h1 h2 h3 h4
          · exact p3 h1 h2 h3
        · exact p2 h1 h2
      · exact p1 h1
    clear hsm
    apply key <;> clear key
    all_goals
      intros
      (refine Ok.body body50 pin50 ?_; simp only [c50,Try.f50,Option.getD_some,nslot50,List.append_nil,List.map,List.replicate,List.length_cons,List.length_nil,Nat.reduceAdd,Nat.reduceSub,List.cons_append,List.nil_append])
      (repeat' (first | (simp -implicitDefEqProofs (maxSteps := 1000000) (disch := first | assumption | omega | (simp only [ZDI]; omega)) only [*,eq_self,G50,Za,Zb,Zc,Zd,Ze,Zf,Zg,Zh,Zi,Zj,Zk,Zl,Zm,Zn,Zo,Ja,Jb,Jc,J6,Jd,Je,J7,J8,Jf,Jg,Jh,Ji,Jj,Jk,J9,Jl,Jm,wr,Jn,JA,JB,Jo,Jp,Jq,Jr,Js,Jt,Ju,Jv,Jw,Jx,Jy,Jz,J0,J1,J2,J3,J4,J5,reduceCtorEq,JC,JD,JE,JF,JG,JH,JI,JJ]) | ((with_reducible (first | apply Ok.br | apply Ok.gd | apply Ok.ld)) <;> (intro g; (try simp only [ZGS] at g); try (exfalso; omega)))))
def smN (x y : In) : Prop := x.l = y.l /\ x.i = y.i /\ x.bn = y.bn /\ x.bd = y.bd /\ x.vn = y.vn /\ x.vd = y.vd /\ x.st = y.st /\ x.sq = y.sq
instance (x y : In) : Decidable (smN x y) := by unfold smN; infer_instance
def smB (x y : In) : Bool := decide (smN x y) && (x.sm == y.sm) && (decide (smC x.o x.c x.q x.f x.t y.o y.c y.q y.f y.t) && decide (x.dl = y.dl)) && decide (x.pl = y.pl)
theorem smB_refl (x : In) : smB x x = true := by simp [smB, smN, smC]
set_option maxHeartbeats 2000000 in
theorem rSame_at {h : Heap} {x y : In} (hx : InAt h x) (hy : InAt h y) : D X (.fn 17 []) [.agg (inV x), .agg (inV y)] h = some (.bool (smB x y), h) := by
  refine Ok.eq ?_
  have h1 := rSameCmd_at (o := x.o) (c := x.c) (q := x.q) (f := x.f) (t := x.t) (o' := y.o) (c' := y.c) (q' := y.q) (f' := y.f) (t' := y.t) hx.1 hy.1
  have h2 := sameRefs_at hx.2 hy.2
  obtain ⟨a, cap, z, e1⟩ := hx.1.sl
  obtain ⟨a2, cap2, z2, e2⟩ := hy.1.sl
  obtain ⟨a3, cap3, z3, e3⟩ := hx.2.sl
  obtain ⟨a4, cap4, z4, e4⟩ := hy.2.sl
  rw [e1, e2] at h1
  rw [e3, e4] at h2
  clear hx hy
  unfold smB
  simp only [inV,e1,e2,e3,e4]
  clear e1 e2 e3 e4
  generalize (decide (smC x.o x.c x.q x.f x.t y.o y.c y.q y.f y.t) && decide (x.dl = y.dl)) = A at h1 ⊢
  generalize decide (x.pl = y.pl) = B at h2 ⊢
  obtain ⟨b, hb, b1, b0⟩ := truth (smN x y)
  rw [hb]
  clear hb
  generalize hsm : (x.sm == y.sm) = s
  (refine Ok.body body17 pin17 ?_; simp only [c17,Try.f17,Option.getD_some,nslot17,List.append_nil,List.map,List.replicate,List.length_cons,List.length_nil,Nat.reduceAdd,Nat.reduceSub,List.cons_append,List.nil_append])
  (repeat' (first | (simp -implicitDefEqProofs (maxSteps := 1000000) (disch := first | assumption | omega | (simp only [ZDI]; omega)) only [*,G17,Za,Zb,Zc,Zd,Ze,Zf,Zg,Zh,Zi,Zj,Zk,Zl,Zm,Zn,Zo,Ja,Jb,Jc,J6,Jd,Je,J7,J8,Jf,Jg,Jh,Ji,Jj,Jk,J9,Jl,Jm,wr,Jn,JA,JB,Jo,Jp,Jq,Jr,Js,Jt,Ju,Jv,Jw,Jx,Jy,Jz,J0,J1,J2,J3,J4,J5,reduceCtorEq,JC,JD,JE,JF,JG,JH,JI,JJ]) | ((with_reducible (first | apply Ok.br | apply Ok.gd | apply Ok.ld)) <;> (intro g; (try simp only [ZGS] at g); try (exfalso; omega)))))
  all_goals (try simp only [Bool.and_eq_true,Bool.and_eq_false_iff,decide_eq_true_eq,decide_eq_false_iff_not] at *)
  all_goals first
    | (rw [b1.out (by unfold smN; omega)]; simp [*]; done)
    | (rw [b0.out (by unfold smN; omega)]; simp; done)
    | (simp [*]; done)
end Go.Ev
set_option maxRecDepth 100000
namespace Go.Ev
open Go.Proofs
theorem InAt.keep {h h' : Heap} {x : In} (hs : InAt h x) (k : KeepC h h') : InAt h' x := ⟨hs.1.keep k, hs.2.keep k⟩
end Go.Ev
set_option maxRecDepth 100000
namespace Go.Ev
open Go.Ev renaming exPure -> Ja, ofValue -> Jb, cellsV -> Jc, load -> Jd, store -> Je, binOp -> Jf, intOp -> Jg, rdV -> Jh, vsame -> Ji, vsames -> Jj, makeSliceV -> Jk, resV -> Jl, isCell -> Jm, nilCheckV -> Jn, allV -> Jo, builtinV -> Jp, lenV -> Jq, indexAddrV -> Jr, unOp -> Js, minmaxV -> Jt, minmax -> Ju, sliceV -> Jv, asInt -> Jw, appendV -> Jx, forkB -> Jy, roY -> Jz, rwB -> J0, copyV -> J1, clearV -> J2, convV -> J3, sliceCells -> J4, shift -> J5
open Bool renaming true -> BT, false -> BF
open Nat renaming reduceEqDiff -> J6, reduceLT -> J7, reduceAdd -> J8, reduceBEq -> J9, reduceSub -> JA, reduceMul -> JB, reduceLeDiff -> JJ
open Int renaming reduceLT -> JC, reduceLE -> JD, reduceAdd -> JE, reduceSub -> JF, reduceNeg -> JG, reduceToNat -> JH, reduceEq -> JI
open Go.Proofs
def instE (x : In) : List UInt8 := intE x.l ++ intE x.i ++ intE x.bn ++ intE x.bd ++ intE x.vn ++ intE x.vd ++ intE x.st ++ [if x.sm then 1 else 0] ++ cmdE x.o x.c x.q x.f x.t x.dl ++ intE x.sq ++ numE x.pl.length ++ refsE x.pl
structure In64s (x : In) : Prop where
  a1 : In64' x.l
  a2 : In64' x.i
  a3 : In64' x.bn
  a4 : In64' x.bd
  a5 : In64' x.vn
  a6 : In64' x.vd
  a7 : In64' x.st
  b1 : In64' x.c
  b2 : In64' x.q
  b3 : In64' x.f
  b4 : In64' x.t
  a8 : In64' x.sq
  ps : ∀ k ∈ x.pl, In64' k.1 /\ In64' k.2
theorem cmdE_len {o c q f t : Int} {l : List ByteArray} (hc : In64' c) (hq : In64' q) (hf : In64' f) (ht : In64' t) (hl : l.length <= 5000) : (cmdE o c q f t l).length <= 60 + 2 * sumE l + l.length := by
  have l1 := intE_len hc
  have l2 := intE_len hq
  have l3 := intE_len hf
  have l4 := intE_len ht
  have l5 := numE_len (n := l.length) (by omega)
  have l6 := textsE_len l
  unfold cmdE
  simp only [List.length_append,List.length_cons,List.length_nil]
  omega
set_option maxHeartbeats 16000000 in
theorem instLay_at {H0 H : Heap} {p : Nat} {ob : Option Nat} {bs : List UInt8} {x : In} (hx : InAt H0 x) (hk : KeepC H0 H) (hp0 : H0.length <= p) (hb0 : ∀ b, ob = some b -> H0.length <= b) (hw : WrAt H p ob bs)
    (ho : 0 <= x.o /\ x.o < 256) (h6 : In64s x) (hdl : x.dl.length <= 5000) (hpl : x.pl.length <= 5000) (hl : bs.length + 4 * sumE x.dl + 1000000 < 35184372088832) :
    Ev.Ok (D X (.fn 36 []) [.ptr p 0 0, .agg (inV x)] H) (Wrote p ob (bs ++ instE x) H) := by
  refine Ok.aim fun Q hQ => ?_
  have hQ' := Hid.mk hQ
  clear hQ
  have l1 := intE_len h6.a1
  have l2 := intE_len h6.a2
  have l3 := intE_len h6.a3
  have l4 := intE_len h6.a4
  have l5 := intE_len h6.a5
  have l6 := intE_len h6.a6
  have l7 := intE_len h6.a7
  have l8 := intE_len h6.a8
  have l9 := cmdE_len (o := x.o) (l := x.dl) h6.b1 h6.b2 h6.b3 h6.b4 hdl
  obtain ⟨y1, e1, H1, ob1, rfl, w1, s1⟩ := wInt_at hw h6.a1 (by omega)
  obtain ⟨y2, e2, H2, ob2, rfl, w2, s2⟩ := wInt_at w1 h6.a2 (by simp only [List.length_append]; omega)
  obtain ⟨y3, e3, H3, ob3, rfl, w3, s3⟩ := wInt_at w2 h6.a3 (by simp only [List.length_append]; omega)
  obtain ⟨y4, e4, H4, ob4, rfl, w4, s4⟩ := wInt_at w3 h6.a4 (by simp only [List.length_append]; omega)
  obtain ⟨y5, e5, H5, ob5, rfl, w5, s5⟩ := wInt_at w4 h6.a5 (by simp only [List.length_append]; omega)
  obtain ⟨y6, e6, H6, ob6, rfl, w6, s6⟩ := wInt_at w5 h6.a6 (by simp only [List.length_append]; omega)
  obtain ⟨y7, e7, H7, ob7, rfl, w7, s7⟩ := wInt_at w6 h6.a7 (by simp only [List.length_append]; omega)
  obtain ⟨y8, e8, H8, ob8, rfl, w8, s8⟩ := wBool_at w7 x.sm (by simp only [List.length_append]; omega)
  have s := ((((((s1.trans s2).trans s3).trans s4).trans s5).trans s6).trans s7).trans s8
  obtain ⟨k1, k2⟩ := s.keepC hk hp0 hb0
  obtain ⟨y9, e9, H9, ob9, rfl, w9, s9⟩ := cmdLay_at hx.1 k1 hp0 k2 w8 ho h6.b1 h6.b2 h6.b3 h6.b4 hdl (by simp only [List.length_append,List.length_cons,List.length_nil]; omega)
  obtain ⟨y10, e10, H10, ob10, rfl, w10, s10⟩ := wInt_at w9 h6.a8 (by simp only [List.length_append,List.length_cons,List.length_nil]; omega)
  have s' := (s.trans s9).trans s10
  obtain ⟨k3, k4⟩ := s'.keepC hk hp0 hb0
  obtain ⟨y11, e11, H11, ob11, rfl, w11, s11⟩ := putRefs_at hx.2 k3 hp0 k4 w10 h6.ps hpl (by simp only [List.length_append,List.length_cons,List.length_nil]; omega)
  have hfin : Hid (Q (.tup [], H11)) := ⟨hQ'.out _ ⟨H11, ob11, rfl, by unfold instE; simpa only [List.append_assoc] using w11, s'.trans s11⟩⟩
  clear hw w1 w2 w3 w4 w5 w6 w7 w8 w9 w10 w11 s1 s2 s3 s4 s5 s6 s7 s8 s9 s10 s11 s s' k1 k2 k3 k4 hx hk hb0 l1 l2 l3 l4 l5 l6 l7 l8 l9 hQ' h6
  simp only [inV]
  (refine Ok.body body36 pin36 ?_; simp only [c36,Try.f36,Option.getD_some,nslot36,List.append_nil,List.map,List.replicate,List.length_cons,List.length_nil,Nat.reduceAdd,Nat.reduceSub,List.cons_append,List.nil_append])
  (repeat' (first | (simp -implicitDefEqProofs (maxSteps := 1000000) (disch := first | assumption | omega | (simp only [ZDI]; omega)) only [*,lenV,G36,Za,Zb,Zc,Zd,Ze,Zf,Zg,Zh,Zi,Zj,Zk,Zl,Zm,Zn,Zo,Ja,Jb,Jc,J6,Jd,Je,J7,J8,Jf,Jg,Jh,Ji,Jj,Jk,J9,Jl,Jm,wr,Jn,JA,JB,Jo,Jp,Jq,Jr,Js,Jt,Ju,Jv,Jw,Jx,Jy,Jz,J0,J1,J2,J3,J4,J5,reduceCtorEq,JC,JD,JE,JF,JG,JH,JI,JJ]) | ((with_reducible (first | apply Ok.br | apply Ok.gd | apply Ok.ld)) <;> (intro g; (try simp only [ZGS] at g); try (exfalso; omega)))))
  refine Ok.unroll ?_
  (repeat' (first | (simp -implicitDefEqProofs (maxSteps := 1000000) (disch := first | assumption | omega | (simp only [ZDI]; omega)) only [*,lenV,G36,Za,Zb,Zc,Zd,Ze,Zf,Zg,Zh,Zi,Zj,Zk,Zl,Zm,Zn,Zo,Ja,Jb,Jc,J6,Jd,Je,J7,J8,Jf,Jg,Jh,Ji,Jj,Jk,J9,Jl,Jm,wr,Jn,JA,JB,Jo,Jp,Jq,Jr,Js,Jt,Ju,Jv,Jw,Jx,Jy,Jz,J0,J1,J2,J3,J4,J5,reduceCtorEq,JC,JD,JE,JF,JG,JH,JI,JJ]) | ((with_reducible (first | apply Ok.br | apply Ok.gd | apply Ok.ld)) <;> (intro g; (try simp only [ZGS] at g); try (exfalso; omega)))))
  refine Ok.unroll ?_
  (repeat' (first | (simp -implicitDefEqProofs (maxSteps := 1000000) (disch := first | assumption | omega | (simp only [ZDI]; omega)) only [*,lenV,G36,Za,Zb,Zc,Zd,Ze,Zf,Zg,Zh,Zi,Zj,Zk,Zl,Zm,Zn,Zo,Ja,Jb,Jc,J6,Jd,Je,J7,J8,Jf,Jg,Jh,Ji,Jj,Jk,J9,Jl,Jm,wr,Jn,JA,JB,Jo,Jp,Jq,Jr,Js,Jt,Ju,Jv,Jw,Jx,Jy,Jz,J0,J1,J2,J3,J4,J5,reduceCtorEq,JC,JD,JE,JF,JG,JH,JI,JJ]) | ((with_reducible (first | apply Ok.br | apply Ok.gd | apply Ok.ld)) <;> (intro g; (try simp only [ZGS] at g); try (exfalso; omega)))))
  refine Ok.unroll ?_
  (repeat' (first | (simp -implicitDefEqProofs (maxSteps := 1000000) (disch := first | assumption | omega | (simp only [ZDI]; omega)) only [*,lenV,G36,Za,Zb,Zc,Zd,Ze,Zf,Zg,Zh,Zi,Zj,Zk,Zl,Zm,Zn,Zo,Ja,Jb,Jc,J6,Jd,Je,J7,J8,Jf,Jg,Jh,Ji,Jj,Jk,J9,Jl,Jm,wr,Jn,JA,JB,Jo,Jp,Jq,Jr,Js,Jt,Ju,Jv,Jw,Jx,Jy,Jz,J0,J1,J2,J3,J4,J5,reduceCtorEq,JC,JD,JE,JF,JG,JH,JI,JJ]) | ((with_reducible (first | apply Ok.br | apply Ok.gd | apply Ok.ld)) <;> (intro g; (try simp only [ZGS] at g); try (exfalso; omega)))))
  refine Ok.unroll ?_
  (repeat' (first | (simp -implicitDefEqProofs (maxSteps := 1000000) (disch := first | assumption | omega | (simp only [ZDI]; omega)) only [*,lenV,G36,Za,Zb,Zc,Zd,Ze,Zf,Zg,Zh,Zi,Zj,Zk,Zl,Zm,Zn,Zo,Ja,Jb,Jc,J6,Jd,Je,J7,J8,Jf,Jg,Jh,Ji,Jj,Jk,J9,Jl,Jm,wr,Jn,JA,JB,Jo,Jp,Jq,Jr,Js,Jt,Ju,Jv,Jw,Jx,Jy,Jz,J0,J1,J2,J3,J4,J5,reduceCtorEq,JC,JD,JE,JF,JG,JH,JI,JJ]) | ((with_reducible (first | apply Ok.br | apply Ok.gd | apply Ok.ld)) <;> (intro g; (try simp only [ZGS] at g); try (exfalso; omega)))))
  refine Ok.unroll ?_
  (repeat' (first | (simp -implicitDefEqProofs (maxSteps := 1000000) (disch := first | assumption | omega | (simp only [ZDI]; omega)) only [*,lenV,G36,Za,Zb,Zc,Zd,Ze,Zf,Zg,Zh,Zi,Zj,Zk,Zl,Zm,Zn,Zo,Ja,Jb,Jc,J6,Jd,Je,J7,J8,Jf,Jg,Jh,Ji,Jj,Jk,J9,Jl,Jm,wr,Jn,JA,JB,Jo,Jp,Jq,Jr,Js,Jt,Ju,Jv,Jw,Jx,Jy,Jz,J0,J1,J2,J3,J4,J5,reduceCtorEq,JC,JD,JE,JF,JG,JH,JI,JJ]) | ((with_reducible (first | apply Ok.br | apply Ok.gd | apply Ok.ld)) <;> (intro g; (try simp only [ZGS] at g); try (exfalso; omega)))))
  refine Ok.unroll ?_
  (repeat' (first | (simp -implicitDefEqProofs (maxSteps := 1000000) (disch := first | assumption | omega | (simp only [ZDI]; omega)) only [*,lenV,G36,Za,Zb,Zc,Zd,Ze,Zf,Zg,Zh,Zi,Zj,Zk,Zl,Zm,Zn,Zo,Ja,Jb,Jc,J6,Jd,Je,J7,J8,Jf,Jg,Jh,Ji,Jj,Jk,J9,Jl,Jm,wr,Jn,JA,JB,Jo,Jp,Jq,Jr,Js,Jt,Ju,Jv,Jw,Jx,Jy,Jz,J0,J1,J2,J3,J4,J5,reduceCtorEq,JC,JD,JE,JF,JG,JH,JI,JJ]) | ((with_reducible (first | apply Ok.br | apply Ok.gd | apply Ok.ld)) <;> (intro g; (try simp only [ZGS] at g); try (exfalso; omega)))))
  refine Ok.unroll ?_
  (repeat' (first | (simp -implicitDefEqProofs (maxSteps := 1000000) (disch := first | assumption | omega | (simp only [ZDI]; omega)) only [*,lenV,G36,Za,Zb,Zc,Zd,Ze,Zf,Zg,Zh,Zi,Zj,Zk,Zl,Zm,Zn,Zo,Ja,Jb,Jc,J6,Jd,Je,J7,J8,Jf,Jg,Jh,Ji,Jj,Jk,J9,Jl,Jm,wr,Jn,JA,JB,Jo,Jp,Jq,Jr,Js,Jt,Ju,Jv,Jw,Jx,Jy,Jz,J0,J1,J2,J3,J4,J5,reduceCtorEq,JC,JD,JE,JF,JG,JH,JI,JJ]) | ((with_reducible (first | apply Ok.br | apply Ok.gd | apply Ok.ld)) <;> (intro g; (try simp only [ZGS] at g); try (exfalso; omega)))))
  refine Ok.unroll ?_
  (repeat' (first | (simp -implicitDefEqProofs (maxSteps := 1000000) (disch := first | assumption | omega | (simp only [ZDI]; omega)) only [*,lenV,G36,Za,Zb,Zc,Zd,Ze,Zf,Zg,Zh,Zi,Zj,Zk,Zl,Zm,Zn,Zo,Ja,Jb,Jc,J6,Jd,Je,J7,J8,Jf,Jg,Jh,Ji,Jj,Jk,J9,Jl,Jm,wr,Jn,JA,JB,Jo,Jp,Jq,Jr,Js,Jt,Ju,Jv,Jw,Jx,Jy,Jz,J0,J1,J2,J3,J4,J5,reduceCtorEq,JC,JD,JE,JF,JG,JH,JI,JJ]) | ((with_reducible (first | apply Ok.br | apply Ok.gd | apply Ok.ld)) <;> (intro g; (try simp only [ZGS] at g); try (exfalso; omega)))))
  exact hfin.out
end Go.Ev
set_option maxRecDepth 100000
namespace Go.Ev
open Go.Ev renaming exPure -> Ja, ofValue -> Jb, cellsV -> Jc, load -> Jd, store -> Je, binOp -> Jf, intOp -> Jg, rdV -> Jh, vsame -> Ji, vsames -> Jj, makeSliceV -> Jk, resV -> Jl, isCell -> Jm, nilCheckV -> Jn, allV -> Jo, builtinV -> Jp, lenV -> Jq, indexAddrV -> Jr, unOp -> Js, minmaxV -> Jt, minmax -> Ju, sliceV -> Jv, asInt -> Jw, appendV -> Jx, forkB -> Jy, roY -> Jz, rwB -> J0, copyV -> J1, clearV -> J2, convV -> J3, sliceCells -> J4, shift -> J5
open Bool renaming true -> BT, false -> BF
open Nat renaming reduceEqDiff -> J6, reduceLT -> J7, reduceAdd -> J8, reduceBEq -> J9, reduceSub -> JA, reduceMul -> JB, reduceLeDiff -> JJ
open Int renaming reduceLT -> JC, reduceLE -> JD, reduceAdd -> JE, reduceSub -> JF, reduceNeg -> JG, reduceToNat -> JH, reduceEq -> JI
open Go.Proofs
set_option maxHeartbeats 4000000 in
theorem wBytes_at {H : Heap} {p : Nat} {ob : Option Nat} {bs : List UInt8} (hw : WrAt H p ob bs) (hne : bs ≠ []) (hl : bs.length < 35184372088832) :
    D X (.fn 37 []) [.ptr p 0 0] H = some (.sl (.at H.length 0 0) bs.length bs.length 1, H ++ [.cells 0 true (bV bs)]) := by
  cases ob with
  | none => exact absurd hw.2 hne
  | some b =>
    obtain ⟨g, h1, h2, hbp⟩ := hw
    have hb := hcells_lt h2
    have ht := bV_take bs
    have hle : bs.length <= (bV bs).length := by rw [bV_len]; exact Nat.le_refl _
    have hn0 : ¬ bs.length <= 0 := by
      have : bs.length ≠ 0 := fun h => hne (List.length_eq_zero_iff.1 h)
      omega
    have hn1 : ¬ bs.length = 0 := by omega
    have hL : bs.length * 1 <= 35184372088832 /\ bs.length <= 35184372088832 := by omega
    clear hne
    refine Ok.eq ?_
    (refine Ok.body body37 pin37 ?_; simp only [c37,Try.f37,Option.getD_some,nslot37,List.append_nil,List.map,List.replicate,List.length_cons,List.length_nil,Nat.reduceAdd,Nat.reduceSub,List.cons_append,List.nil_append])
    (repeat' (first | (simp -implicitDefEqProofs (maxSteps := 1000000) (disch := first | assumption | omega | (simp only [ZDI]; omega)) only [*,lenV,List.drop_zero,Nat.zero_add,Nat.mul_one,List.nil_append,G37,Za,Zb,Zc,Zd,Ze,Zf,Zg,Zh,Zi,Zj,Zk,Zl,Zm,Zn,Zo,Ja,Jb,Jc,J6,Jd,Je,J7,J8,Jf,Jg,Jh,Ji,Jj,Jk,J9,Jl,Jm,wr,Jn,JA,JB,Jo,Jp,Jq,Jr,Js,Jt,Ju,Jv,Jw,Jx,Jy,Jz,J0,J1,J2,J3,J4,J5,reduceCtorEq,JC,JD,JE,JF,JG,JH,JI,JJ]) | ((with_reducible (first | apply Ok.br | apply Ok.gd | apply Ok.ld)) <;> (intro g; (try simp only [ZGS] at g); try (exfalso; omega)))))
end Go.Ev
set_option maxRecDepth 100000
namespace Go.Ev
open Go.Ev renaming exPure -> Ja, ofValue -> Jb, cellsV -> Jc, load -> Jd, store -> Je, binOp -> Jf, intOp -> Jg, rdV -> Jh, vsame -> Ji, vsames -> Jj, makeSliceV -> Jk, resV -> Jl, isCell -> Jm, nilCheckV -> Jn, allV -> Jo, builtinV -> Jp, lenV -> Jq, indexAddrV -> Jr, unOp -> Js, minmaxV -> Jt, minmax -> Ju, sliceV -> Jv, asInt -> Jw, appendV -> Jx, forkB -> Jy, roY -> Jz, rwB -> J0, copyV -> J1, clearV -> J2, convV -> J3, sliceCells -> J4, shift -> J5
open Bool renaming true -> BT, false -> BF
open Nat renaming reduceEqDiff -> J6, reduceLT -> J7, reduceAdd -> J8, reduceBEq -> J9, reduceSub -> JA, reduceMul -> JB, reduceLeDiff -> JJ
open Int renaming reduceLT -> JC, reduceLE -> JD, reduceAdd -> JE, reduceSub -> JF, reduceNeg -> JG, reduceToNat -> JH, reduceEq -> JI
open Go.Proofs
def Bys (H : Heap) (bs : List UInt8) (y : V × Heap) : Prop := ∃ b g z, y.1 = .sl (.at b g 0) bs.length bs.length z /\ (z = 0 \/ z = 1) /\ hcells y.2 b g = some (true, bV bs) /\ H.length <= b /\ Keeps [] H y.2
theorem hc_new {H : Heap} {r : Bool} {c : List V} : hcells (H ++ [.cells 0 r c]) H.length 0 = some (r, c) := by
  rw [hcells_ge (Nat.le_refl _), Nat.sub_self]; exact grd_t rfl _
theorem hc_new2 {H : Heap} {x : Blk} {r : Bool} {c : List V} : hcells (H ++ [x, .cells 0 r c]) (H.length + 1) 0 = some (r, c) := by
  rw [hcells_ge (by omega), Nat.add_sub_cancel_left]; exact grd_t rfl _
theorem rem_at (m : Nat) : IntKind.u8.wrap ((m : Int).tmod 128) = ((UInt8.ofNat (m % 128)).toNat : Nat) := by
  have : (m : Int).tmod 128 = ((m % 128 : Nat) : Int) := by rw [Int.tmod_eq_emod_of_nonneg (by omega)]; omega
  rw [this, wrap8, UInt8.toNat_ofNat']
theorem rem2_at (m : Nat) : IntKind.u8.wrap (IntKind.u8.wrap ((m : Int).tmod 128) + 128) = ((UInt8.ofNat (m % 128 + 128)).toNat : Nat) := by
  rw [rem_at, UInt8.toNat_ofNat']
  have : ((m % 128 % 2 ^ 8 : Nat) : Int) + 128 = ((m % 128 + 128 : Nat) : Int) := by omega
  rw [this, wrap8, UInt8.toNat_ofNat']
theorem quo_at {m : Nat} (h : m < 18446744073709551616) : IntKind.u64.wrap ((m : Int).tdiv 128) = ((m / 128 : Nat) : Int) := by
  have : (m : Int).tdiv 128 = ((m / 128 : Nat) : Int) := by rw [Int.tdiv_eq_ediv_of_nonneg (by omega)]; omega
  rw [this, wrapU (by omega)]
set_option maxHeartbeats 4000000 in
theorem rNum_at {H : Heap} {n : Nat} (hn : n < 18446744073709551616) : Ev.Ok (D X (.fn 67 []) [.int .u64 (n : Nat)] H) (Bys H (numE n)) := by
  refine Ok.aim fun Q hQ => ?_
  have hQ' := Hid.mk hQ
  clear hQ
  have hr0 := rem_at n
  have hlen := numE_len hn
  (refine Ok.body body67 pin67 ?_; simp only [c67,Try.f67,Option.getD_some,nslot67,List.append_nil,List.map,List.replicate,List.length_cons,List.length_nil,Nat.reduceAdd,Nat.reduceSub,List.cons_append,List.nil_append])
  (repeat' (first | (simp -implicitDefEqProofs (maxSteps := 1000000) (disch := first | assumption | omega | (simp only [ZDI]; omega)) only [*,G67,Za,Zb,Zc,Zd,Ze,Zf,Zg,Zh,Zi,Zj,Zk,Zl,Zm,Zn,Zo,Ja,Jb,Jc,J6,Jd,Je,J7,J8,Jf,Jg,Jh,Ji,Jj,Jk,J9,Jl,Jm,wr,Jn,JA,JB,Jo,Jp,Jq,Jr,Js,Jt,Ju,Jv,Jw,Jx,Jy,Jz,J0,J1,J2,J3,J4,J5,reduceCtorEq,JC,JD,JE,JF,JG,JH,JI,JJ]) | ((with_reducible (first | apply Ok.br | apply Ok.gd | apply Ok.ld)) <;> (intro g; (try simp only [ZGS] at g); try (exfalso; omega)))))
  clear hr0
  refine Ok.loop [BT, BF, BF, BT, BF, BF, BF, BF, BT, BT, BT, BT, BT, BT, BT, BT, BT, BT, BT, BF] (fun k s2 => ∃ (m : Nat) (tl : List UInt8) (b g z : Nat), k = m /\ tv s2.e 0 = .v (.int .u64 (m : Nat)) /\ tv s2.e 3 = .v (.sl (.at b g 0) tl.length tl.length z) /\ (z = 0 \/ z = 1) /\ s2.l = [] /\ hcells s2.h b g = some (true, bV tl) /\ H.length <= b /\ Keeps [] H s2.h /\ numE n = hiE (m / 128) ++ tl /\ m <= n /\ 0 < tl.length)
    (fun y s2 => y = .exit 0 /\ ∃ (b g z : Nat), tv s2.e 3 = .v (.sl (.at b g 0) (numE n).length (numE n).length z) /\ (z = 0 \/ z = 1) /\ s2.l = [] /\ hcells s2.h b g = some (true, bV (numE n)) /\ H.length <= b /\ Keeps [] H s2.h)
    n ⟨n, [UInt8.ofNat (n % 128)], H.length, 0, 0, rfl, rfl, rfl, .inl rfl, rfl, hc_new, Nat.le_refl _, .app _ _ _, rfl, Nat.le_refl _, by simp⟩ ?_ ?_
  · intro k ⟨e', l', g⟩ hW ⟨m, tl, b, q, z, hm, h0, h3, hz, k2, hc, hb0, hk, hnum, hmn, htl⟩
    dsimp only at hW h0 h3 k2 hc hk
    subst l'
    rw [hW.spread]
    simp only [spread_t,spread_f,spread_n,Nat.zero_add,Nat.reduceAdd,h0,h3]
    clear hW hQ'
    have hb := hcells_lt hc
    have hlt : tl.length <= 10 := by rw [hnum, List.length_append] at hlen; omega
    have hnum' := Hid.mk hnum
    have hk' := Hid.mk hk
    clear hnum hk
    by_cases hge : 128 <= m
    · have hge' : (128 : Int) <= (m : Int) := by omega
      have hq := quo_at (m := m) (by omega)
      have hr := rem2_at (m / 128)
      have ht := bV_take tl
      have hle : tl.length <= (bV tl).length := by rw [bV_len]; exact Nat.le_refl _
      have hne : ¬ tl.length = 0 := by omega
      have hn1 : ¬ 1 + tl.length <= 1 := by omega
      have hL : (1 + tl.length) * 1 <= 35184372088832 /\ 1 + tl.length <= 35184372088832 := by omega
      (repeat' (first | (simp -implicitDefEqProofs (maxSteps := 1000000) (disch := first | assumption | omega | (simp only [ZDI]; omega)) only [*,lenV,List.drop_zero,Nat.zero_add,Nat.mul_one,G67,Za,Zb,Zc,Zd,Ze,Zf,Zg,Zh,Zi,Zj,Zk,Zl,Zm,Zn,Zo,Ja,Jb,Jc,J6,Jd,Je,J7,J8,Jf,Jg,Jh,Ji,Jj,Jk,J9,Jl,Jm,wr,Jn,JA,JB,Jo,Jp,Jq,Jr,Js,Jt,Ju,Jv,Jw,Jx,Jy,Jz,J0,J1,J2,J3,J4,J5,reduceCtorEq,JC,JD,JE,JF,JG,JH,JI,JJ]) | ((with_reducible (first | apply Ok.br | apply Ok.gd | apply Ok.ld)) <;> (intro g; (try simp only [ZGS] at g); try (exfalso; omega)))))
      exact Turn.next (m / 128) (by omega) ⟨rfl, m / 128, UInt8.ofNat (m / 128 % 128 + 128) :: tl, g.length + 1, 0, 1, rfl, rfl, by simp only [List.length_cons,Nat.add_comm tl.length 1]; rfl, .inr rfl, rfl, hc_new2, by have := hk'.out.1; omega, hk'.out.snoc _, by rw [hnum'.out, hiE, if_neg (by omega), List.append_assoc]; rfl, by omega, by simp⟩
    · have hge' : ¬ (128 : Int) <= (m : Int) := by omega
      have e : tl = numE n := by rw [hnum'.out, show m / 128 = 0 by omega, hiE]; simp
      subst e
      (repeat' (first | (simp -implicitDefEqProofs (maxSteps := 1000000) (disch := first | assumption | omega | (simp only [ZDI]; omega)) only [*,lenV,List.drop_zero,Nat.zero_add,Nat.mul_one,G67,Za,Zb,Zc,Zd,Ze,Zf,Zg,Zh,Zi,Zj,Zk,Zl,Zm,Zn,Zo,Ja,Jb,Jc,J6,Jd,Je,J7,J8,Jf,Jg,Jh,Ji,Jj,Jk,J9,Jl,Jm,wr,Jn,JA,JB,Jo,Jp,Jq,Jr,Js,Jt,Ju,Jv,Jw,Jx,Jy,Jz,J0,J1,J2,J3,J4,J5,reduceCtorEq,JC,JD,JE,JF,JG,JH,JI,JJ]) | ((with_reducible (first | apply Ok.br | apply Ok.gd | apply Ok.ld)) <;> (intro g; (try simp only [ZGS] at g); try (exfalso; omega)))))
      exact Turn.exit ⟨rfl, rfl, b, q, z, rfl, hz, rfl, hc, hb0, hk'.out⟩
  · intro y ⟨e', l', g⟩ hW ⟨hy, b, q, z, h3, hz, k2, hc, hb0, hk⟩
    dsimp only at hW h3 k2 hc hk
    subst l' hy
    rw [hW.spread]
    clear hW
    simp only [spread_t,spread_f,spread_n,Nat.zero_add,Nat.reduceAdd,h3]
    have hq := Hid.mk (hQ'.out (.sl (.at b q 0) (numE n).length (numE n).length z, g) ⟨b, q, z, rfl, hz, hc, hb0, hk⟩)
    clear hQ' hc hk
    (repeat' (first | (simp -implicitDefEqProofs (maxSteps := 1000000) (disch := first | assumption | omega | (simp only [ZDI]; omega)) only [*,G67,Za,Zb,Zc,Zd,Ze,Zf,Zg,Zh,Zi,Zj,Zk,Zl,Zm,Zn,Zo,Ja,Jb,Jc,J6,Jd,Je,J7,J8,Jf,Jg,Jh,Ji,Jj,Jk,J9,Jl,Jm,wr,Jn,JA,JB,Jo,Jp,Jq,Jr,Js,Jt,Ju,Jv,Jw,Jx,Jy,Jz,J0,J1,J2,J3,J4,J5,reduceCtorEq,JC,JD,JE,JF,JG,JH,JI,JJ]) | ((with_reducible (first | apply Ok.br | apply Ok.gd | apply Ok.ld)) <;> (intro g; (try simp only [ZGS] at g); try (exfalso; omega)))))
    exact hq.out
theorem numE_pos (n : Nat) : 0 < (numE n).length := by unfold numE; simp
theorem intE_pos (n : Int) : 0 < (intE n).length := by unfold intE; split <;> simp
set_option maxHeartbeats 4000000 in
theorem rInt_at {H : Heap} {n : Int} (hn : In64' n) : Ev.Ok (D X (.fn 65 []) [.int .i64 n] H) (Bys H (intE n)) := by
  refine Ok.aim fun Q hQ => ?_
  have hQ' := Hid.mk hQ
  clear hQ
  unfold In64' at hn
  rcases (by omega : n < 0 \/ ¬ n < 0) with h0 | h0
  case' inl =>
    have hu : IntKind.u64.wrap (0 - (n + 1)) = (((-n - 1).toNat : Nat) : Int) := by rw [wrapU (by omega)]; omega
    have hk0 : (-n - 1).toNat < 18446744073709551616 := by omega
    have hi : intE n = 1 :: numE (-n - 1).toNat := by unfold intE; rw [if_pos h0]
    rw [hi] at hQ'
    generalize (-n - 1).toNat = k at hu hk0 hQ'
    obtain ⟨⟨v1, H1⟩, e1, b, g, z, hv, hz, hc, hb, hk⟩ := rNum_at (H := H ++ [.cells 0 true [.int .u8 1]]) hk0
    dsimp only at hv hc hk
    subst hv
    have hx := hk.cells hc_new (by simp)
    have hp := numE_pos k
    have hl := numE_len hk0
    have hbl := hcells_lt hc
    have hxl := hcells_lt hx
    have hne : ¬ (numE k).length = 0 := by omega
    have hn1 : ¬ (1 + (numE k).length <= 1) := by omega
    have hL : (1 + (numE k).length) * 1 <= 35184372088832 /\ 1 + (numE k).length <= 35184372088832 := by omega
    have hfin : Hid (Q (.sl (.at H1.length 0 0) (1 + (numE k).length) (1 + (numE k).length) 1, H1 ++ [.cells 0 true (.int .u8 1 :: bV (numE k))])) := ⟨hQ'.out _ ⟨H1.length, 0, 1, by rw [List.length_cons, Nat.add_comm], .inr rfl, hc_new, by have := hk.1; rw [List.length_append] at this; omega, ((Keeps.app [] H _).trans hk).snoc _⟩⟩
    clear hQ' hk hz
  case' inr =>
    have hu : IntKind.u64.wrap n = ((n.toNat : Nat) : Int) := by rw [wrapU (by omega)]; omega
    have hk0 : n.toNat < 18446744073709551616 := by omega
    have hi : intE n = 0 :: numE n.toNat := by unfold intE; rw [if_neg h0]
    rw [hi] at hQ'
    generalize n.toNat = k at hu hk0 hQ'
    obtain ⟨⟨v1, H1⟩, e1, b, g, z, hv, hz, hc, hb, hk⟩ := rNum_at (H := H ++ [.cells 0 true [.int .u8 0]]) hk0
    dsimp only at hv hc hk
    subst hv
    have hx := hk.cells hc_new (by simp)
    have hp := numE_pos k
    have hl := numE_len hk0
    have hbl := hcells_lt hc
    have hxl := hcells_lt hx
    have hne : ¬ (numE k).length = 0 := by omega
    have hn1 : ¬ (1 + (numE k).length <= 1) := by omega
    have hL : (1 + (numE k).length) * 1 <= 35184372088832 /\ 1 + (numE k).length <= 35184372088832 := by omega
    have hfin : Hid (Q (.sl (.at H1.length 0 0) (1 + (numE k).length) (1 + (numE k).length) 1, H1 ++ [.cells 0 true (.int .u8 0 :: bV (numE k))])) := ⟨hQ'.out _ ⟨H1.length, 0, 1, by rw [List.length_cons, Nat.add_comm], .inr rfl, hc_new, by have := hk.1; rw [List.length_append] at this; omega, ((Keeps.app [] H _).trans hk).snoc _⟩⟩
    clear hQ' hk hz
  all_goals
    (refine Ok.body body65 pin65 ?_; simp only [c65,Try.f65,Option.getD_some,nslot65,List.append_nil,List.map,List.replicate,List.length_cons,List.length_nil,Nat.reduceAdd,Nat.reduceSub,List.cons_append,List.nil_append])
    (repeat' (first | (simp -implicitDefEqProofs (maxSteps := 1000000) (disch := first | assumption | omega | (simp only [ZDI]; omega)) only [*,lenV,bV_take,bV_len,List.drop_zero,Nat.zero_add,Nat.mul_one,G65,Za,Zb,Zc,Zd,Ze,Zf,Zg,Zh,Zi,Zj,Zk,Zl,Zm,Zn,Zo,Ja,Jb,Jc,J6,Jd,Je,J7,J8,Jf,Jg,Jh,Ji,Jj,Jk,J9,Jl,Jm,wr,Jn,JA,JB,Jo,Jp,Jq,Jr,Js,Jt,Ju,Jv,Jw,Jx,Jy,Jz,J0,J1,J2,J3,J4,J5,reduceCtorEq,JC,JD,JE,JF,JG,JH,JI,JJ]) | ((with_reducible (first | apply Ok.br | apply Ok.gd | apply Ok.ld)) <;> (intro g; (try simp only [ZGS] at g); try (exfalso; omega)))))
    exact hfin.out
set_option maxHeartbeats 4000000 in
theorem rText_at {H : Heap} {s : ByteArray} (hs : s.size < 1000000000) : Ev.Ok (D X (.fn 89 []) [.str s] H) (Bys H (textE s)) := by
  refine Ok.aim fun Q hQ => ?_
  have hQ' := Hid.mk hQ
  clear hQ
  have hu := wrapU (n := (s.size : Int)) (by omega)
  obtain ⟨⟨v1, H1⟩, e1, b, g, z, hv, hz, hc, hb, hk⟩ := rNum_at (H := H) (n := s.size) (by omega)
  dsimp only at hv hc hk
  subst hv
  have hp := numE_pos s.size
  have hl := numE_len (n := s.size) (by omega)
  have hbl := hcells_lt hc
  have hbs : bytesV s = bV s.data.toList := bytesV_eq s
  have hsl : s.data.toList.length = s.size := by rw [Array.length_toList]; rfl
  by_cases hz0 : s.size = 0
  · have hnil : s.data.toList = [] := List.length_eq_zero_iff.1 (by omega)
    have ht : textE s = numE s.size := by unfold textE; rw [hnil, List.append_nil]
    have hfin : ∀ B : Blk, Q (.sl (.at b g 0) (numE s.size).length (numE s.size).length z, H1 ++ [B]) := fun B => hQ'.out _ ⟨b, g, z, by rw [ht], hz, by rw [ht]; dsimp only; rw [hcells_app hbl]; exact hc, hb, hk.snoc _⟩
    have hfin' := Hid.mk hfin
    have hz2 : decide (s.size = 0) = true := decide_eq_true hz0
    have hz3 : (numE s.size).length + s.size <= (numE s.size).length := by omega
    clear hfin hQ' hk hz hz0 hnil ht hsl hbs
    (refine Ok.body body89 pin89 ?_; simp only [c89,Try.f89,Option.getD_some,nslot89,List.append_nil,List.map,List.replicate,List.length_cons,List.length_nil,Nat.reduceAdd,Nat.reduceSub,List.cons_append,List.nil_append])
    (repeat' (first | (simp -implicitDefEqProofs (maxSteps := 1000000) (disch := first | assumption | omega | (simp only [ZDI]; omega)) only [*,lenV,bV_take,bV_len,List.drop_zero,Nat.zero_add,Nat.mul_one,G89,Za,Zb,Zc,Zd,Ze,Zf,Zg,Zh,Zi,Zj,Zk,Zl,Zm,Zn,Zo,Ja,Jb,Jc,J6,Jd,Je,J7,J8,Jf,Jg,Jh,Ji,Jj,Jk,J9,Jl,Jm,wr,Jn,JA,JB,Jo,Jp,Jq,Jr,Js,Jt,Ju,Jv,Jw,Jx,Jy,Jz,J0,J1,J2,J3,J4,J5,reduceCtorEq,JC,JD,JE,JF,JG,JH,JI,JJ]) | ((with_reducible (first | apply Ok.br | apply Ok.gd | apply Ok.ld)) <;> (intro g; (try simp only [ZGS] at g); try (exfalso; omega)))))
    exact hfin'.out _
  · have hlt : (textE s).length = (numE s.size).length + s.size := by unfold textE; rw [List.length_append, hsl]
    have hbt : bV (textE s) = bV (numE s.size) ++ bV s.data.toList := by unfold textE; rw [bV_app]
    have htk : (bV s.data.toList).take s.size = bV s.data.toList := by rw [<- hsl]; exact bV_take _
    have hbl2 : (bV s.data.toList).length = s.size := by rw [bV_len, hsl]
    have hn1 : ¬ ((numE s.size).length + s.size <= (numE s.size).length) := by omega
    have hn2 : ¬ (numE s.size).length = 0 := by omega
    have hL : ((numE s.size).length + s.size) * 1 <= 35184372088832 /\ (numE s.size).length + s.size <= 35184372088832 := by omega
    rcases hz with rfl | rfl
    · have hfin : ∀ B : Blk, Q (.sl (.at (H1.length + 1) 0 0) ((numE s.size).length + s.size) ((numE s.size).length + s.size) 1, H1 ++ [B, .cells 0 true (bV (numE s.size) ++ bV s.data.toList)]) := fun B => hQ'.out _ ⟨H1.length + 1, 0, 1, by rw [hlt], .inr rfl, by rw [hbt]; exact hc_new2, by have := hk.1; omega, hk.snoc _⟩
      have hfin' := Hid.mk hfin
      clear hfin hQ' hk hlt hbt
      (refine Ok.body body89 pin89 ?_; simp only [c89,Try.f89,Option.getD_some,nslot89,List.append_nil,List.map,List.replicate,List.length_cons,List.length_nil,Nat.reduceAdd,Nat.reduceSub,List.cons_append,List.nil_append])
      (repeat' (first | (simp -implicitDefEqProofs (maxSteps := 1000000) (disch := first | assumption | omega | (simp only [ZDI]; omega)) only [*,lenV,bV_take,bV_len,List.drop_zero,Nat.zero_add,Nat.mul_one,G89,Za,Zb,Zc,Zd,Ze,Zf,Zg,Zh,Zi,Zj,Zk,Zl,Zm,Zn,Zo,Ja,Jb,Jc,J6,Jd,Je,J7,J8,Jf,Jg,Jh,Ji,Jj,Jk,J9,Jl,Jm,wr,Jn,JA,JB,Jo,Jp,Jq,Jr,Js,Jt,Ju,Jv,Jw,Jx,Jy,Jz,J0,J1,J2,J3,J4,J5,reduceCtorEq,JC,JD,JE,JF,JG,JH,JI,JJ]) | ((with_reducible (first | apply Ok.br | apply Ok.gd | apply Ok.ld)) <;> (intro g; (try simp only [ZGS] at g); try (exfalso; omega)))))
      exact hfin'.out _
    · have hfin : ∀ B : Blk, Q (.sl (.at b (g + 1) 0) ((numE s.size).length + s.size) ((numE s.size).length + s.size) 1, H1.set b (.cells (g + 1) true (bV (numE s.size) ++ bV s.data.toList)) ++ [B]) := fun B => hQ'.out _ ⟨b, g + 1, 1, by rw [hlt], .inr rfl, by
        rw [hbt]; dsimp only; rw [hcells_app (by simpa using hbl)]; exact hcells_set_eq hbl, hb, (hk.set (.inr hb) _).snoc _⟩
      have hfin' := Hid.mk hfin
      clear hfin hQ' hk hlt hbt
      (refine Ok.body body89 pin89 ?_; simp only [c89,Try.f89,Option.getD_some,nslot89,List.append_nil,List.map,List.replicate,List.length_cons,List.length_nil,Nat.reduceAdd,Nat.reduceSub,List.cons_append,List.nil_append])
      (repeat' (first | (simp -implicitDefEqProofs (maxSteps := 1000000) (disch := first | assumption | omega | (simp only [ZDI]; omega)) only [*,lenV,bV_take,bV_len,List.drop_zero,Nat.zero_add,Nat.mul_one,G89,Za,Zb,Zc,Zd,Ze,Zf,Zg,Zh,Zi,Zj,Zk,Zl,Zm,Zn,Zo,Ja,Jb,Jc,J6,Jd,Je,J7,J8,Jf,Jg,Jh,Ji,Jj,Jk,J9,Jl,Jm,wr,Jn,JA,JB,Jo,Jp,Jq,Jr,Js,Jt,Ju,Jv,Jw,Jx,Jy,Jz,J0,J1,J2,J3,J4,J5,reduceCtorEq,JC,JD,JE,JF,JG,JH,JI,JJ]) | ((with_reducible (first | apply Ok.br | apply Ok.gd | apply Ok.ld)) <;> (intro g; (try simp only [ZGS] at g); try (exfalso; omega)))))
      exact hfin'.out _
end Go.Ev
set_option maxRecDepth 100000
namespace Go.Ev
open Go.Ev renaming exPure -> Ja, ofValue -> Jb, cellsV -> Jc, load -> Jd, store -> Je, binOp -> Jf, intOp -> Jg, rdV -> Jh, vsame -> Ji, vsames -> Jj, makeSliceV -> Jk, resV -> Jl, isCell -> Jm, nilCheckV -> Jn, allV -> Jo, builtinV -> Jp, lenV -> Jq, indexAddrV -> Jr, unOp -> Js, minmaxV -> Jt, minmax -> Ju, sliceV -> Jv, asInt -> Jw, appendV -> Jx, forkB -> Jy, roY -> Jz, rwB -> J0, copyV -> J1, clearV -> J2, convV -> J3, sliceCells -> J4, shift -> J5
open Bool renaming true -> BT, false -> BF
open Nat renaming reduceEqDiff -> J6, reduceLT -> J7, reduceAdd -> J8, reduceBEq -> J9, reduceSub -> JA, reduceMul -> JB, reduceLeDiff -> JJ
open Int renaming reduceLT -> JC, reduceLE -> JD, reduceAdd -> JE, reduceSub -> JF, reduceNeg -> JG, reduceToNat -> JH, reduceEq -> JI
open Go.Proofs
theorem doc_step {fn : V} {args : List V} {e A : List UInt8} {H g : Heap} {b q : Nat} (hF : Ev.Ok (D X fn args g) (Bys g e)) (hk : Keeps [] H g) (hb : H.length <= b) (hc : hcells g b q = some (true, bV A)) :
    ∃ c r z g', D X fn args g = some (.sl (.at c r 0) e.length e.length z, g') /\ hcells g' c r = some (true, bV e) /\ hcells g' b q = some (true, bV A) /\ b < g'.length /\ c < g'.length /\ Keeps [] H g' /\
      ∀ A', A' = A ++ e -> bV A ++ bV e = bV A' /\ A.length + e.length = A'.length /\ hcells (g'.set b (.cells (q + 1) true (bV A'))) b (q + 1) = some (true, bV A') /\ Keeps [] H (g'.set b (.cells (q + 1) true (bV A'))) := by
  obtain ⟨⟨v, g'⟩, e1, c, r, z, hv, hz, h1, h2, h3⟩ := hF
  dsimp only at hv h1 h3
  subst hv
  have h4 := h3.cells hc (by simp)
  have h5 := hcells_lt h4
  have h6 := hk.trans ⟨h3.1, h3.2⟩
  refine ⟨c, r, z, g', e1, h1, h4, h5, hcells_lt h1, h6, fun A' e => ?_⟩
  subst e
  exact ⟨(bV_app _ _).symm, (List.length_append).symm, hcells_set_eq h5, h6.set (.inr hb) _⟩
set_option maxHeartbeats 16000000 in
theorem rCmdLay_at {H : Heap} {v : V} {l : List ByteArray} (hr : StrsAt H v l) {o c q f t : Int} (ho : 0 <= o /\ o < 256) (hc : In64' c) (hq : In64' q) (hf : In64' f) (ht : In64' t) (hll : l.length <= 5000) (hsum : sumE l < 1000000000) :
    Ev.Ok (D X (.fn 66 []) [.agg [.int .i64 o, .int .i64 c, .int .i64 q, .int .i64 f, .int .i64 t, v]] H) (Bys H (cmdE o c q f t l)) := by
  refine Ok.aim fun Q hQ => ?_
  have hQ' := Hid.mk hQ
  clear hQ
  have hwo : IntKind.u8.wrap o = ((UInt8.ofNat o.toNat).toNat : Nat) := by
    obtain ⟨m, rfl⟩ : ∃ m : Nat, o = m := ⟨o.toNat, by omega⟩
    rw [wrap8, Int.toNat_natCast, UInt8.toNat_ofNat']
  have hl1 := intE_len hc
  have hl2 := intE_len hq
  have hl3 := intE_len hf
  have hl4 := intE_len ht
  have hp1 := intE_pos c
  have hp2 := intE_pos q
  have hp3 := intE_pos f
  have hp4 := intE_pos t
  have hp5 := numE_pos l.length
  have hl5 := numE_len (n := l.length) (by omega)
  have hu := wrapU (n := (l.length : Int)) (by omega)
  obtain ⟨⟨v1, H1⟩, e1, c1, r1, z1, hv1, hz1, hc1, hb1, hk1⟩ := rInt_at (H := H ++ [.cells 0 true [.int .u8 ((UInt8.ofNat o.toNat).toNat : Nat)]]) hc
  dsimp only at hv1 hc1 hk1
  subst hv1
  have hx1 := hk1.cells hc_new (by simp)
  have hxl1 := hcells_lt hx1
  have hcl1 := hcells_lt hc1
  have hK1 : Keeps [] H H1 := (Keeps.app [] H _).trans hk1
  obtain ⟨A1, hA1⟩ : ∃ A, A = UInt8.ofNat o.toNat :: intE c := ⟨_, rfl⟩
  have hA1' : V.int .u8 ((UInt8.ofNat o.toNat).toNat : Nat) :: bV (intE c) = bV A1 := by rw [hA1]; rfl
  have hn1 : 1 + (intE c).length = A1.length := by rw [hA1, List.length_cons, Nat.add_comm]
  have ha1 : hcells (H1 ++ [.cells 0 true (bV A1)]) H1.length 0 = some (true, bV A1) := hc_new
  obtain ⟨c2, r2, z2, H2, e2, hc2, hx2, hxl2, hcl2, hK2, hs2⟩ := doc_step (rInt_at hq) (hK1.snoc [.cells 0 true (bV A1)]) hK1.1 ha1
  obtain ⟨A2, hA2⟩ : ∃ A, A = A1 ++ intE q := ⟨_, rfl⟩
  obtain ⟨hA2', hn2, ha2, hKa2⟩ := hs2 A2 hA2
  obtain ⟨c3, r3, z3, H3, e3, hc3, hx3, hxl3, hcl3, hK3, hs3⟩ := doc_step (rInt_at hf) hKa2 hK1.1 ha2
  obtain ⟨A3, hA3⟩ : ∃ A, A = A2 ++ intE f := ⟨_, rfl⟩
  obtain ⟨hA3', hn3, ha3, hKa3⟩ := hs3 A3 hA3
  obtain ⟨c4, r4, z4, H4, e4, hc4, hx4, hxl4, hcl4, hK4, hs4⟩ := doc_step (rInt_at ht) hKa3 hK1.1 ha3
  obtain ⟨A4, hA4⟩ : ∃ A, A = A3 ++ intE t := ⟨_, rfl⟩
  obtain ⟨hA4', hn4, ha4, hKa4⟩ := hs4 A4 hA4
  obtain ⟨c5, r5, z5, H5, e5, hc5, hx5, hxl5, hcl5, hK5, hs5⟩ := doc_step (rNum_at (n := l.length) (by omega)) hKa4 hK1.1 ha4
  obtain ⟨A5, hA5⟩ : ∃ A, A = A4 ++ numE l.length := ⟨_, rfl⟩
  obtain ⟨hA5', hn5, ha5, hKa5⟩ := hs5 A5 hA5
  have hcmd : Hid (A5 ++ textsE l = cmdE o c q f t l) := ⟨by rw [hA5, hA4, hA3, hA2, hA1]; unfold cmdE; simp only [List.append_assoc,List.cons_append,List.nil_append]⟩
  have hle5 : A5.length <= 100 := by omega
  have hm1 : ¬ (intE c).length = 0 := by omega
  have hm2 : ¬ (intE q).length = 0 := by omega
  have hm3 : ¬ (intE f).length = 0 := by omega
  have hm4 : ¬ (intE t).length = 0 := by omega
  have hm5 : ¬ (numE l.length).length = 0 := by omega
  have hd1 : ¬ A1.length <= 1 := by omega
  have hd2 : ¬ A2.length <= A1.length := by omega
  have hd3 : ¬ A3.length <= A2.length := by omega
  have hd4 : ¬ A4.length <= A3.length := by omega
  have hd5 : ¬ A5.length <= A4.length := by omega
  have hM1 : A1.length * 1 <= 35184372088832 /\ A1.length <= 35184372088832 := by omega
  have hM2 : A2.length * 1 <= 35184372088832 /\ A2.length <= 35184372088832 := by omega
  have hM3 : A3.length * 1 <= 35184372088832 /\ A3.length <= 35184372088832 := by omega
  have hM4 : A4.length * 1 <= 35184372088832 /\ A4.length <= 35184372088832 := by omega
  have hM5 : A5.length * 1 <= 35184372088832 /\ A5.length <= 35184372088832 := by omega
  have hb1' := Hid.mk hK1.1
  have ha5' := Hid.mk ha5
  have hKa5' := Hid.mk hKa5
  clear hs2 hs3 hs4 hs5 hA1 hA2 hA3 hA4 hA5 ha1 ha2 ha3 ha4 ha5 hK1 hK2 hK3 hK4 hK5 hKa2 hKa3 hKa4 hKa5 hk1 hb1 hz1
  obtain ⟨a, cap, z, rfl, h1, _, h2⟩ := hr
  (refine Ok.body body66 pin66 ?_; simp only [c66,Try.f66,Option.getD_some,nslot66,List.append_nil,List.map,List.replicate,List.length_cons,List.length_nil,Nat.reduceAdd,Nat.reduceSub,List.cons_append,List.nil_append])
  (repeat' (first | (simp -implicitDefEqProofs (maxSteps := 1000000) (disch := first | assumption | omega | (simp only [ZDI]; omega)) only [*,lenV,bV_take,bV_len,List.drop_zero,Nat.zero_add,Nat.mul_one,G66,Za,Zb,Zc,Zd,Ze,Zf,Zg,Zh,Zi,Zj,Zk,Zl,Zm,Zn,Zo,Ja,Jb,Jc,J6,Jd,Je,J7,J8,Jf,Jg,Jh,Ji,Jj,Jk,J9,Jl,Jm,wr,Jn,JA,JB,Jo,Jp,Jq,Jr,Js,Jt,Ju,Jv,Jw,Jx,Jy,Jz,J0,J1,J2,J3,J4,J5,reduceCtorEq,JC,JD,JE,JF,JG,JH,JI,JJ]) | ((with_reducible (first | apply Ok.br | apply Ok.gd | apply Ok.ld)) <;> (intro g; (try simp only [ZGS] at g); try (exfalso; omega)))))
  refine Ok.unroll ?_
  (repeat' (first | (simp -implicitDefEqProofs (maxSteps := 1000000) (disch := first | assumption | omega | (simp only [ZDI]; omega)) only [*,lenV,bV_take,bV_len,List.drop_zero,Nat.zero_add,Nat.mul_one,G66,Za,Zb,Zc,Zd,Ze,Zf,Zg,Zh,Zi,Zj,Zk,Zl,Zm,Zn,Zo,Ja,Jb,Jc,J6,Jd,Je,J7,J8,Jf,Jg,Jh,Ji,Jj,Jk,J9,Jl,Jm,wr,Jn,JA,JB,Jo,Jp,Jq,Jr,Js,Jt,Ju,Jv,Jw,Jx,Jy,Jz,J0,J1,J2,J3,J4,J5,reduceCtorEq,JC,JD,JE,JF,JG,JH,JI,JJ]) | ((with_reducible (first | apply Ok.br | apply Ok.gd | apply Ok.ld)) <;> (intro g; (try simp only [ZGS] at g); try (exfalso; omega)))))
  refine Ok.unroll ?_
  (repeat' (first | (simp -implicitDefEqProofs (maxSteps := 1000000) (disch := first | assumption | omega | (simp only [ZDI]; omega)) only [*,lenV,bV_take,bV_len,List.drop_zero,Nat.zero_add,Nat.mul_one,G66,Za,Zb,Zc,Zd,Ze,Zf,Zg,Zh,Zi,Zj,Zk,Zl,Zm,Zn,Zo,Ja,Jb,Jc,J6,Jd,Je,J7,J8,Jf,Jg,Jh,Ji,Jj,Jk,J9,Jl,Jm,wr,Jn,JA,JB,Jo,Jp,Jq,Jr,Js,Jt,Ju,Jv,Jw,Jx,Jy,Jz,J0,J1,J2,J3,J4,J5,reduceCtorEq,JC,JD,JE,JF,JG,JH,JI,JJ]) | ((with_reducible (first | apply Ok.br | apply Ok.gd | apply Ok.ld)) <;> (intro g; (try simp only [ZGS] at g); try (exfalso; omega)))))
  refine Ok.unroll ?_
  (repeat' (first | (simp -implicitDefEqProofs (maxSteps := 1000000) (disch := first | assumption | omega | (simp only [ZDI]; omega)) only [*,lenV,bV_take,bV_len,List.drop_zero,Nat.zero_add,Nat.mul_one,G66,Za,Zb,Zc,Zd,Ze,Zf,Zg,Zh,Zi,Zj,Zk,Zl,Zm,Zn,Zo,Ja,Jb,Jc,J6,Jd,Je,J7,J8,Jf,Jg,Jh,Ji,Jj,Jk,J9,Jl,Jm,wr,Jn,JA,JB,Jo,Jp,Jq,Jr,Js,Jt,Ju,Jv,Jw,Jx,Jy,Jz,J0,J1,J2,J3,J4,J5,reduceCtorEq,JC,JD,JE,JF,JG,JH,JI,JJ]) | ((with_reducible (first | apply Ok.br | apply Ok.gd | apply Ok.ld)) <;> (intro g; (try simp only [ZGS] at g); try (exfalso; omega)))))
  refine Ok.unroll ?_
  (repeat' (first | (simp -implicitDefEqProofs (maxSteps := 1000000) (disch := first | assumption | omega | (simp only [ZDI]; omega)) only [*,lenV,bV_take,bV_len,List.drop_zero,Nat.zero_add,Nat.mul_one,G66,Za,Zb,Zc,Zd,Ze,Zf,Zg,Zh,Zi,Zj,Zk,Zl,Zm,Zn,Zo,Ja,Jb,Jc,J6,Jd,Je,J7,J8,Jf,Jg,Jh,Ji,Jj,Jk,J9,Jl,Jm,wr,Jn,JA,JB,Jo,Jp,Jq,Jr,Js,Jt,Ju,Jv,Jw,Jx,Jy,Jz,J0,J1,J2,J3,J4,J5,reduceCtorEq,JC,JD,JE,JF,JG,JH,JI,JJ]) | ((with_reducible (first | apply Ok.br | apply Ok.gd | apply Ok.ld)) <;> (intro g; (try simp only [ZGS] at g); try (exfalso; omega)))))
  refine Ok.unroll ?_
  (repeat' (first | (simp -implicitDefEqProofs (maxSteps := 1000000) (disch := first | assumption | omega | (simp only [ZDI]; omega)) only [*,lenV,bV_take,bV_len,List.drop_zero,Nat.zero_add,Nat.mul_one,G66,Za,Zb,Zc,Zd,Ze,Zf,Zg,Zh,Zi,Zj,Zk,Zl,Zm,Zn,Zo,Ja,Jb,Jc,J6,Jd,Je,J7,J8,Jf,Jg,Jh,Ji,Jj,Jk,J9,Jl,Jm,wr,Jn,JA,JB,Jo,Jp,Jq,Jr,Js,Jt,Ju,Jv,Jw,Jx,Jy,Jz,J0,J1,J2,J3,J4,J5,reduceCtorEq,JC,JD,JE,JF,JG,JH,JI,JJ]) | ((with_reducible (first | apply Ok.br | apply Ok.gd | apply Ok.ld)) <;> (intro g; (try simp only [ZGS] at g); try (exfalso; omega)))))
  clear e1 hc1 hx1 hxl1 hcl1 hA1' hn1 e2 hc2 hx2 hxl2 hcl2 hA2' hn2 e3 hc3 hx3 hxl3 hcl3 hA3' hn3 e4 hc4 hx4 hxl4 hcl4 hA4' hn4 e5 hc5 hx5 hcl5 hA5' hn5 hm1 hm2 hm3 hm4 hm5 hd1 hd2 hd3 hd4 hd5 hM1 hM2 hM3 hM4 hM5 hwo hu
  refine Ok.loop [BF, BF, BF, BT, BF, BF, BF, BT, BF, BF, BF, BF, BF, BF, BF, BF, BF, BF, BF, BF, BF, BF, BF, BF, BF, BF, BF, BF, BF, BF, BF, BF, BF, BF, BF, BF, BF, BF, BF, BF, BF, BT, BT, BT, BT, BT, BT, BT, BT, BT, BF] (fun n s2 => ∃ (i q' : Nat) (A : List UInt8) (y1 y2 : Nat × List V), n = l.length - i /\ i <= l.length /\ tv s2.e 41 = .v (.int .i64 i) /\ tv s2.e 3 = .v (.sl (.at H1.length q' 0) A.length A.length 1) /\ s2.l = [y1, y2] /\ A = A5 ++ textsE (l.take i) /\ hcells s2.h H1.length q' = some (true, bV A) /\ Keeps [] H s2.h)
    (fun y s2 => y = .exit 2 /\ ∃ (q' : Nat) (A : List UInt8) (y1 y2 : Nat × List V), tv s2.e 3 = .v (.sl (.at H1.length q' 0) A.length A.length 1) /\ s2.l = [y1, y2] /\ A = A5 ++ textsE l /\ hcells s2.h H1.length q' = some (true, bV A) /\ Keeps [] H s2.h)
    (l.length - 0) ⟨0, _, A5, _, _, rfl, Nat.zero_le _, rfl, rfl, rfl, by simp [textsE], ha5'.out, hKa5'.out⟩ ?_ ?_
  · intro n ⟨e', l', g⟩ hW ⟨i, q', A, y1, y2, hm, hi, h41, h3, k2, hA, hcA, hkg⟩
    dsimp only at hW h41 h3 k2 hcA hkg
    subst l'
    rw [hW.spread]
    simp only [spread_t,spread_f,spread_n,Nat.zero_add,Nat.reduceAdd,h41,h3]
    clear hW hQ'
    by_cases hlt : i < l.length
    · have hlt' : (i : Int) < (l.length : Int) := by omega
      have g1 : 0 <= (i : Int) /\ (i : Int) < (l.length : Int) := by omega
      rcases h2 with rfl | ⟨bb, qq, oo, rw, full, rfl, hbc, hfull⟩
      · simp at hlt
      · obtain ⟨s, hs⟩ : ∃ k, l[i]? = some k := ⟨_, List.getElem?_eq_getElem hlt⟩
        have hf := hfull i _ hs
        have hbc2 := hkg.cells hbc (by simp)
        have hrl := textsE_len (l.take i)
        have hsm := sumE_at hs
        have hsz : sumE (l.take i) <= sumE l := by omega
        rw [List.length_take] at hrl
        have hte := textE_len s
        have htp : 0 < (textE s).length := by unfold textE; rw [List.length_append]; have := numE_pos s.size; omega
        have hAl : A.length <= 100 + 2 * 1000000000 + 5000 := by rw [hA, List.length_append]; omega
        obtain ⟨c6, r6, z6, H6, e6, hc6, hx6, hxl6, hcl6, hK6, hs6⟩ := doc_step (rText_at (s := s) (by omega)) hkg hb1'.out hcA
        obtain ⟨A6, hA6⟩ : ∃ B, B = A ++ textE s := ⟨_, rfl⟩
        obtain ⟨hA6', hn6, ha6, hKa6⟩ := hs6 A6 hA6
        have hAn : Hid (A6 = A5 ++ textsE (l.take (i + 1))) := ⟨by rw [hA6, hA, List.append_assoc, textsE_snoc hs]⟩
        have ha6' := Hid.mk ha6
        have hKa6' := Hid.mk hKa6
        have hm6 : ¬ (textE s).length = 0 := by omega
        have hd6 : ¬ A6.length <= A.length := by omega
        have hM6 : A6.length * 1 <= 35184372088832 /\ A6.length <= 35184372088832 := by omega
        clear hfull hs hbc hs6 ha6 hKa6 hK6 hA6 hA hcA hkg hrl hsm hsz hte
        (repeat' (first | (simp -implicitDefEqProofs (maxSteps := 1000000) (disch := first | assumption | omega | (simp only [ZDI]; omega)) only [*,lenV,bV_take,bV_len,List.drop_zero,Nat.zero_add,Nat.mul_one,G66,Za,Zb,Zc,Zd,Ze,Zf,Zg,Zh,Zi,Zj,Zk,Zl,Zm,Zn,Zo,Ja,Jb,Jc,J6,Jd,Je,J7,J8,Jf,Jg,Jh,Ji,Jj,Jk,J9,Jl,Jm,wr,Jn,JA,JB,Jo,Jp,Jq,Jr,Js,Jt,Ju,Jv,Jw,Jx,Jy,Jz,J0,J1,J2,J3,J4,J5,reduceCtorEq,JC,JD,JE,JF,JG,JH,JI,JJ]) | ((with_reducible (first | apply Ok.br | apply Ok.gd | apply Ok.ld)) <;> (intro g; (try simp only [ZGS] at g); try (exfalso; omega)))))
        exact Turn.next (l.length - (i + 1)) (by omega) ⟨rfl, i + 1, _, A6, _, _, rfl, by omega, rfl, rfl, rfl, hAn.out, ha6'.out, hKa6'.out⟩
    · have hlt' : ¬ (i : Int) < (l.length : Int) := by omega
      rw [List.take_of_length_le (by omega)] at hA
      have hA' := Hid.mk hA
      have hc' := Hid.mk hcA
      have hk' := Hid.mk hkg
      clear hA hcA hkg
      (repeat' (first | (simp -implicitDefEqProofs (maxSteps := 1000000) (disch := first | assumption | omega | (simp only [ZDI]; omega)) only [*,lenV,G66,Za,Zb,Zc,Zd,Ze,Zf,Zg,Zh,Zi,Zj,Zk,Zl,Zm,Zn,Zo,Ja,Jb,Jc,J6,Jd,Je,J7,J8,Jf,Jg,Jh,Ji,Jj,Jk,J9,Jl,Jm,wr,Jn,JA,JB,Jo,Jp,Jq,Jr,Js,Jt,Ju,Jv,Jw,Jx,Jy,Jz,J0,J1,J2,J3,J4,J5,reduceCtorEq,JC,JD,JE,JF,JG,JH,JI,JJ]) | ((with_reducible (first | apply Ok.br | apply Ok.gd | apply Ok.ld)) <;> (intro g; (try simp only [ZGS] at g); try (exfalso; omega)))))
      exact Turn.exit ⟨rfl, rfl, q', A, _, _, rfl, rfl, hA'.out, hc'.out, hk'.out⟩
  · intro y ⟨e', l', g⟩ hW ⟨hy, q', A, y1, y2, h3, k2, hA, hcA, hkg⟩
    dsimp only at hW h3 k2 hcA hkg
    subst l' hy
    rw [hW.spread]
    clear hW
    simp only [spread_t,spread_f,spread_n,Nat.zero_add,Nat.reduceAdd,h3]
    have hq := Hid.mk (hQ'.out (.sl (.at H1.length q' 0) A.length A.length 1, g) ⟨H1.length, q', 1, by rw [<- hcmd.out, <- hA], .inr rfl, by rw [<- hcmd.out, <- hA]; exact hcA, hb1'.out, hkg⟩)
    clear hQ' hcA hkg hA
    (repeat' (first | (simp -implicitDefEqProofs (maxSteps := 1000000) (disch := first | assumption | omega | (simp only [ZDI]; omega)) only [*,G66,Za,Zb,Zc,Zd,Ze,Zf,Zg,Zh,Zi,Zj,Zk,Zl,Zm,Zn,Zo,Ja,Jb,Jc,J6,Jd,Je,J7,J8,Jf,Jg,Jh,Ji,Jj,Jk,J9,Jl,Jm,wr,Jn,JA,JB,Jo,Jp,Jq,Jr,Js,Jt,Ju,Jv,Jw,Jx,Jy,Jz,J0,J1,J2,J3,J4,J5,reduceCtorEq,JC,JD,JE,JF,JG,JH,JI,JJ]) | ((with_reducible (first | apply Ok.br | apply Ok.gd | apply Ok.ld)) <;> (intro g; (try simp only [ZGS] at g); try (exfalso; omega)))))
    exact hq.out
end Go.Ev
set_option maxRecDepth 100000
namespace Go.Ev
open Go.Ev renaming exPure -> Ja, ofValue -> Jb, cellsV -> Jc, load -> Jd, store -> Je, binOp -> Jf, intOp -> Jg, rdV -> Jh, vsame -> Ji, vsames -> Jj, makeSliceV -> Jk, resV -> Jl, isCell -> Jm, nilCheckV -> Jn, allV -> Jo, builtinV -> Jp, lenV -> Jq, indexAddrV -> Jr, unOp -> Js, minmaxV -> Jt, minmax -> Ju, sliceV -> Jv, asInt -> Jw, appendV -> Jx, forkB -> Jy, roY -> Jz, rwB -> J0, copyV -> J1, clearV -> J2, convV -> J3, sliceCells -> J4, shift -> J5
open Bool renaming true -> BT, false -> BF
open Nat renaming reduceEqDiff -> J6, reduceLT -> J7, reduceAdd -> J8, reduceBEq -> J9, reduceSub -> JA, reduceMul -> JB, reduceLeDiff -> JJ
open Int renaming reduceLT -> JC, reduceLE -> JD, reduceAdd -> JE, reduceSub -> JF, reduceNeg -> JG, reduceToNat -> JH, reduceEq -> JI
open Go.Proofs
theorem Keeps.keepC {h h' : Heap} (hk : Keeps [] h h') : KeepC h h' := ⟨hk.1, fun i g q hc => hk.cells hc (by simp)⟩
set_option maxHeartbeats 64000000 in
theorem rInstLay_at {H : Heap} {x : In} (hx : InAt H x) (ho : 0 <= x.o /\ x.o < 256) (h6 : In64s x) (hdl : x.dl.length <= 5000) (hpl : x.pl.length <= 5000) (hsum : sumE x.dl < 1000000000) :
    Ev.Ok (D X (.fn 38 []) [.agg (inV x)] H) (Bys H (instE x)) := by
  refine Ok.aim fun Q hQ => ?_
  have hQ' := Hid.mk hQ
  clear hQ
  have hl1 := intE_len h6.a1
  have hp1 := intE_pos x.l
  have hl2 := intE_len h6.a2
  have hp2 := intE_pos x.i
  have hl3 := intE_len h6.a3
  have hp3 := intE_pos x.bn
  have hl4 := intE_len h6.a4
  have hp4 := intE_pos x.bd
  have hl5 := intE_len h6.a5
  have hp5 := intE_pos x.vn
  have hl6 := intE_len h6.a6
  have hp6 := intE_pos x.vd
  have hl7 := intE_len h6.a7
  have hp7 := intE_pos x.st
  have hl10 := intE_len h6.a8
  have hp10 := intE_pos x.sq
  have hl9 := cmdE_len (o := x.o) (l := x.dl) h6.b1 h6.b2 h6.b3 h6.b4 hdl
  have hp9 : 0 < (cmdE x.o x.c x.q x.f x.t x.dl).length := by unfold cmdE; simp only [List.length_append,List.length_cons]; omega
  have hl11 := numE_len (n := x.pl.length) (by omega)
  have hp11 := numE_pos x.pl.length
  have hu := wrapU (n := (x.pl.length : Int)) (by omega)
  obtain ⟨⟨v1, H1⟩, e1, c1, r1, z1, hv1, hz1, hc1, hb1, hk1⟩ := rInt_at (H := H) h6.a1
  dsimp only at hv1 hc1 hk1
  subst hv1
  have hcl1 := hcells_lt hc1
  have hbH := hk1.1
  obtain ⟨A1, hA1⟩ : ∃ A, A = intE x.l := ⟨_, rfl⟩
  have ha1 : hcells (H1 ++ [.cells 0 true (bV A1)]) H1.length 0 = some (true, bV A1) := hc_new
  have hKa1 := hk1.snoc [.cells 0 true (bV A1)]
  rw [<- hA1] at e1 hc1 hl1 hp1
  obtain ⟨c2, r2, z2, H2, e2, hc2, hx2, hxl2, hcl2, hK2, hs2⟩ := doc_step (rInt_at h6.a2) hKa1 hbH ha1
  obtain ⟨A2, hA2⟩ : ∃ A, A = A1 ++ intE x.i := ⟨_, rfl⟩
  obtain ⟨hA2', hn2, ha2, hKa2⟩ := hs2 A2 hA2
  obtain ⟨c3, r3, z3, H3, e3, hc3, hx3, hxl3, hcl3, hK3, hs3⟩ := doc_step (rInt_at h6.a3) hKa2 hbH ha2
  obtain ⟨A3, hA3⟩ : ∃ A, A = A2 ++ intE x.bn := ⟨_, rfl⟩
  obtain ⟨hA3', hn3, ha3, hKa3⟩ := hs3 A3 hA3
  obtain ⟨c4, r4, z4, H4, e4, hc4, hx4, hxl4, hcl4, hK4, hs4⟩ := doc_step (rInt_at h6.a4) hKa3 hbH ha3
  obtain ⟨A4, hA4⟩ : ∃ A, A = A3 ++ intE x.bd := ⟨_, rfl⟩
  obtain ⟨hA4', hn4, ha4, hKa4⟩ := hs4 A4 hA4
  obtain ⟨c5, r5, z5, H5, e5, hc5, hx5, hxl5, hcl5, hK5, hs5⟩ := doc_step (rInt_at h6.a5) hKa4 hbH ha4
  obtain ⟨A5, hA5⟩ : ∃ A, A = A4 ++ intE x.vn := ⟨_, rfl⟩
  obtain ⟨hA5', hn5, ha5, hKa5⟩ := hs5 A5 hA5
  obtain ⟨c6, r6, z6, H6, e6, hc6, hx6, hxl6, hcl6, hK6, hs6⟩ := doc_step (rInt_at h6.a6) hKa5 hbH ha5
  obtain ⟨A6, hA6⟩ : ∃ A, A = A5 ++ intE x.vd := ⟨_, rfl⟩
  obtain ⟨hA6', hn6, ha6, hKa6⟩ := hs6 A6 hA6
  obtain ⟨c7, r7, z7, H7, e7, hc7, hx7, hxl7, hcl7, hK7, hs7⟩ := doc_step (rInt_at h6.a7) hKa6 hbH ha6
  obtain ⟨A7, hA7⟩ : ∃ A, A = A6 ++ intE x.st := ⟨_, rfl⟩
  obtain ⟨hA7', hn7, ha7, hKa7⟩ := hs7 A7 hA7
  obtain ⟨A8, hA8⟩ : ∃ A, A = A7 ++ [if x.sm then 1 else 0] := ⟨_, rfl⟩
  have hA8' : bV A7 ++ [V.int .u8 (if x.sm then 1 else 0)] = bV A8 := by rw [hA8, bV_app]; cases x.sm <;> rfl
  have hn8 : A7.length + 1 = A8.length := by rw [hA8, List.length_append]; rfl
  have ha8 : hcells (H7.set H1.length (.cells (0 + 1 + 1 + 1 + 1 + 1 + 1 + 1) true (bV A8))) H1.length (0 + 1 + 1 + 1 + 1 + 1 + 1 + 1) = some (true, bV A8) := hcells_set_eq hxl7
  have hKa8 : Keeps [] H (H7.set H1.length (.cells (0 + 1 + 1 + 1 + 1 + 1 + 1 + 1) true (bV A8))) := hK7.set (.inr hbH) _
  obtain ⟨c9, r9, z9, H9, e9, hc9, hx9, hxl9, hcl9, hK9, hs9⟩ := doc_step (rCmdLay_at (hx.1.keep hKa8.keepC) ho h6.b1 h6.b2 h6.b3 h6.b4 hdl hsum) hKa8 hbH ha8
  obtain ⟨A9, hA9⟩ : ∃ A, A = A8 ++ cmdE x.o x.c x.q x.f x.t x.dl := ⟨_, rfl⟩
  obtain ⟨hA9', hn9, ha9, hKa9⟩ := hs9 A9 hA9
  obtain ⟨c10, r10, z10, H10, e10, hc10, hx10, hxl10, hcl10, hK10, hs10⟩ := doc_step (rInt_at h6.a8) hKa9 hbH ha9
  obtain ⟨A10, hA10⟩ : ∃ A, A = A9 ++ intE x.sq := ⟨_, rfl⟩
  obtain ⟨hA10', hn10, ha10, hKa10⟩ := hs10 A10 hA10
  obtain ⟨c11, r11, z11, H11, e11, hc11, hx11, hxl11, hcl11, hK11, hs11⟩ := doc_step (rNum_at (n := x.pl.length) (by omega)) hKa10 hbH ha10
  obtain ⟨A11, hA11⟩ : ∃ A, A = A10 ++ numE x.pl.length := ⟨_, rfl⟩
  obtain ⟨hA11', hn11, ha11, hKa11⟩ := hs11 A11 hA11
  have hcmd : Hid (A11 ++ refsE x.pl = instE x) := ⟨by rw [hA11, hA10, hA9, hA8, hA7, hA6, hA5, hA4, hA3, hA2, hA1]; unfold instE; simp only [List.append_assoc,List.cons_append,List.nil_append]⟩
  have hle : A11.length <= 2000010000 := by omega
  have hm1 : ¬ (A1).length = 0 := by omega
  have hm2 : ¬ (intE x.i).length = 0 := by omega
  have hm3 : ¬ (intE x.bn).length = 0 := by omega
  have hm4 : ¬ (intE x.bd).length = 0 := by omega
  have hm5 : ¬ (intE x.vn).length = 0 := by omega
  have hm6 : ¬ (intE x.vd).length = 0 := by omega
  have hm7 : ¬ (intE x.st).length = 0 := by omega
  have hm9 : ¬ (cmdE x.o x.c x.q x.f x.t x.dl).length = 0 := by omega
  have hm10 : ¬ (intE x.sq).length = 0 := by omega
  have hm11 : ¬ (numE x.pl.length).length = 0 := by omega
  have hd2 : ¬ A2.length <= A1.length := by omega
  have hd3 : ¬ A3.length <= A2.length := by omega
  have hd4 : ¬ A4.length <= A3.length := by omega
  have hd5 : ¬ A5.length <= A4.length := by omega
  have hd6 : ¬ A6.length <= A5.length := by omega
  have hd7 : ¬ A7.length <= A6.length := by omega
  have hd8 : ¬ A8.length <= A7.length := by omega
  have hd9 : ¬ A9.length <= A8.length := by omega
  have hd10 : ¬ A10.length <= A9.length := by omega
  have hd11 : ¬ A11.length <= A10.length := by omega
  have hd1 : ¬ A1.length <= 0 := by omega
  have hM1 : A1.length * 1 <= 35184372088832 /\ A1.length <= 35184372088832 := by omega
  have hM2 : A2.length * 1 <= 35184372088832 /\ A2.length <= 35184372088832 := by omega
  have hM3 : A3.length * 1 <= 35184372088832 /\ A3.length <= 35184372088832 := by omega
  have hM4 : A4.length * 1 <= 35184372088832 /\ A4.length <= 35184372088832 := by omega
  have hM5 : A5.length * 1 <= 35184372088832 /\ A5.length <= 35184372088832 := by omega
  have hM6 : A6.length * 1 <= 35184372088832 /\ A6.length <= 35184372088832 := by omega
  have hM7 : A7.length * 1 <= 35184372088832 /\ A7.length <= 35184372088832 := by omega
  have hM8 : A8.length * 1 <= 35184372088832 /\ A8.length <= 35184372088832 := by omega
  have hM9 : A9.length * 1 <= 35184372088832 /\ A9.length <= 35184372088832 := by omega
  have hM10 : A10.length * 1 <= 35184372088832 /\ A10.length <= 35184372088832 := by omega
  have hM11 : A11.length * 1 <= 35184372088832 /\ A11.length <= 35184372088832 := by omega
  have hb1' := Hid.mk hbH
  have ha' := Hid.mk ha11
  have hKa' := Hid.mk hKa11
  have hps := Hid.mk h6.ps
  obtain ⟨sa, sc, sz, hdv, _⟩ := hx.1
  obtain ⟨a, cap, z, hpv, h1, h1', h2⟩ := hx.2
  clear hs2 hs3 hs4 hs5 hs6 hs7 hs9 hs10 hs11 hA1 hA2 hA3 hA4 hA5 hA6 hA7 hA8 hA9 hA10 hA11 ha1 hKa1 ha2 hKa2 ha3 hKa3 ha4 hKa4 ha5 hKa5 ha6 hKa6 ha7 hKa7 ha8 hKa8 ha9 hKa9 ha10 hKa10 ha11 hKa11 hK2 hK3 hK4 hK5 hK6 hK7 hK9 hK10 hK11 hk1 hb1 hz1 hbH hx h6 hl1 hp1 hl2 hp2 hl3 hp3 hl4 hp4 hl5 hp5 hl6 hp6 hl7 hp7 hl9 hp9 hl10 hp10 hl11 hp11
  simp only [inV,hdv,hpv] at e9 ⊢
  have P1 := Hid.mk ((And.intro e1 (And.intro hc1 (And.intro hcl1 (And.intro hm1 (And.intro hd1 hM1))))))
  clear e1 hc1 hcl1 hm1 hd1 hM1
  have P2 := Hid.mk ((And.intro e2 (And.intro hc2 (And.intro hx2 (And.intro hxl2 (And.intro hcl2 (And.intro hn2 (And.intro hm2 (And.intro hd2 (And.intro hM2 hA2'))))))))))
  clear e2 hc2 hx2 hxl2 hcl2 hn2 hm2 hd2 hM2 hA2'
  have P3 := Hid.mk ((And.intro e3 (And.intro hc3 (And.intro hx3 (And.intro hxl3 (And.intro hcl3 (And.intro hn3 (And.intro hm3 (And.intro hd3 (And.intro hM3 hA3'))))))))))
  clear e3 hc3 hx3 hxl3 hcl3 hn3 hm3 hd3 hM3 hA3'
  have P4 := Hid.mk ((And.intro e4 (And.intro hc4 (And.intro hx4 (And.intro hxl4 (And.intro hcl4 (And.intro hn4 (And.intro hm4 (And.intro hd4 (And.intro hM4 hA4'))))))))))
  clear e4 hc4 hx4 hxl4 hcl4 hn4 hm4 hd4 hM4 hA4'
  have P5 := Hid.mk ((And.intro e5 (And.intro hc5 (And.intro hx5 (And.intro hxl5 (And.intro hcl5 (And.intro hn5 (And.intro hm5 (And.intro hd5 (And.intro hM5 hA5'))))))))))
  clear e5 hc5 hx5 hxl5 hcl5 hn5 hm5 hd5 hM5 hA5'
  have P6 := Hid.mk ((And.intro e6 (And.intro hc6 (And.intro hx6 (And.intro hxl6 (And.intro hcl6 (And.intro hn6 (And.intro hm6 (And.intro hd6 (And.intro hM6 hA6'))))))))))
  clear e6 hc6 hx6 hxl6 hcl6 hn6 hm6 hd6 hM6 hA6'
  have P7 := Hid.mk ((And.intro e7 (And.intro hc7 (And.intro hx7 (And.intro hxl7 (And.intro hcl7 (And.intro hn7 (And.intro hm7 (And.intro hd7 (And.intro hM7 hA7'))))))))))
  clear e7 hc7 hx7 hxl7 hcl7 hn7 hm7 hd7 hM7 hA7'
  have P8 := Hid.mk ((And.intro hn8 (And.intro hd8 hM8)))
  clear hn8 hd8 hM8
  have P9 := Hid.mk ((And.intro e9 (And.intro hc9 (And.intro hx9 (And.intro hxl9 (And.intro hcl9 (And.intro hn9 (And.intro hm9 (And.intro hd9 (And.intro hM9 hA9'))))))))))
  clear e9 hc9 hx9 hxl9 hcl9 hn9 hm9 hd9 hM9 hA9'
  have P10 := Hid.mk ((And.intro e10 (And.intro hc10 (And.intro hx10 (And.intro hxl10 (And.intro hcl10 (And.intro hn10 (And.intro hm10 (And.intro hd10 (And.intro hM10 hA10'))))))))))
  clear e10 hc10 hx10 hxl10 hcl10 hn10 hm10 hd10 hM10 hA10'
  have P11 := Hid.mk ((And.intro e11 (And.intro hc11 (And.intro hx11 (And.intro hxl11 (And.intro hcl11 (And.intro hn11 (And.intro hm11 (And.intro hd11 (And.intro hM11 hA11'))))))))))
  clear e11 hc11 hx11 hxl11 hcl11 hn11 hm11 hd11 hM11 hA11'
  cases hsm : x.sm
  all_goals
    rw [hsm] at hA8'
    simp only [if_true,Bool.false_eq_true,if_false] at hA8'
    (refine Ok.body body38 pin38 ?_; simp only [c38,Try.f38,Option.getD_some,nslot38,List.append_nil,List.map,List.replicate,List.length_cons,List.length_nil,Nat.reduceAdd,Nat.reduceSub,List.cons_append,List.nil_append])
    (repeat' (first | (simp -implicitDefEqProofs (maxSteps := 1000000) (disch := first | assumption | omega | (simp only [ZDI]; omega)) only [*,lenV,bV_take,bV_len,List.drop_zero,Nat.zero_add,Nat.mul_one,G38,Za,Zb,Zc,Zd,Ze,Zf,Zg,Zh,Zi,Zj,Zk,Zl,Zm,Zn,Zo,Ja,Jb,Jc,J6,Jd,Je,J7,J8,Jf,Jg,Jh,Ji,Jj,Jk,J9,Jl,Jm,wr,Jn,JA,JB,Jo,Jp,Jq,Jr,Js,Jt,Ju,Jv,Jw,Jx,Jy,Jz,J0,J1,J2,J3,J4,J5,reduceCtorEq,JC,JD,JE,JF,JG,JH,JI,JJ]) | ((with_reducible (first | apply Ok.br | apply Ok.gd | apply Ok.ld)) <;> (intro g; (try simp only [ZGS] at g); try (exfalso; omega)))))
    obtain ⟨e1, hc1, hcl1, hm1, hd1, hM1⟩ := P1.out
    refine Ok.unroll ?_
    (repeat' (first | (simp -implicitDefEqProofs (maxSteps := 1000000) (disch := first | assumption | omega | (simp only [ZDI]; omega)) only [*,lenV,bV_take,bV_len,List.drop_zero,Nat.zero_add,Nat.mul_one,G38,Za,Zb,Zc,Zd,Ze,Zf,Zg,Zh,Zi,Zj,Zk,Zl,Zm,Zn,Zo,Ja,Jb,Jc,J6,Jd,Je,J7,J8,Jf,Jg,Jh,Ji,Jj,Jk,J9,Jl,Jm,wr,Jn,JA,JB,Jo,Jp,Jq,Jr,Js,Jt,Ju,Jv,Jw,Jx,Jy,Jz,J0,J1,J2,J3,J4,J5,reduceCtorEq,JC,JD,JE,JF,JG,JH,JI,JJ]) | ((with_reducible (first | apply Ok.br | apply Ok.gd | apply Ok.ld)) <;> (intro g; (try simp only [ZGS] at g); try (exfalso; omega)))))
    clear e1 hc1 hcl1 hm1 hd1 hM1
    obtain ⟨e2, hc2, hx2, hxl2, hcl2, hn2, hm2, hd2, hM2, hA2'⟩ := P2.out
    refine Ok.unroll ?_
    (repeat' (first | (simp -implicitDefEqProofs (maxSteps := 1000000) (disch := first | assumption | omega | (simp only [ZDI]; omega)) only [*,lenV,bV_take,bV_len,List.drop_zero,Nat.zero_add,Nat.mul_one,G38,Za,Zb,Zc,Zd,Ze,Zf,Zg,Zh,Zi,Zj,Zk,Zl,Zm,Zn,Zo,Ja,Jb,Jc,J6,Jd,Je,J7,J8,Jf,Jg,Jh,Ji,Jj,Jk,J9,Jl,Jm,wr,Jn,JA,JB,Jo,Jp,Jq,Jr,Js,Jt,Ju,Jv,Jw,Jx,Jy,Jz,J0,J1,J2,J3,J4,J5,reduceCtorEq,JC,JD,JE,JF,JG,JH,JI,JJ]) | ((with_reducible (first | apply Ok.br | apply Ok.gd | apply Ok.ld)) <;> (intro g; (try simp only [ZGS] at g); try (exfalso; omega)))))
    clear e2 hc2 hx2 hxl2 hcl2 hn2 hm2 hd2 hM2 hA2'
    obtain ⟨e3, hc3, hx3, hxl3, hcl3, hn3, hm3, hd3, hM3, hA3'⟩ := P3.out
    refine Ok.unroll ?_
    (repeat' (first | (simp -implicitDefEqProofs (maxSteps := 1000000) (disch := first | assumption | omega | (simp only [ZDI]; omega)) only [*,lenV,bV_take,bV_len,List.drop_zero,Nat.zero_add,Nat.mul_one,G38,Za,Zb,Zc,Zd,Ze,Zf,Zg,Zh,Zi,Zj,Zk,Zl,Zm,Zn,Zo,Ja,Jb,Jc,J6,Jd,Je,J7,J8,Jf,Jg,Jh,Ji,Jj,Jk,J9,Jl,Jm,wr,Jn,JA,JB,Jo,Jp,Jq,Jr,Js,Jt,Ju,Jv,Jw,Jx,Jy,Jz,J0,J1,J2,J3,J4,J5,reduceCtorEq,JC,JD,JE,JF,JG,JH,JI,JJ]) | ((with_reducible (first | apply Ok.br | apply Ok.gd | apply Ok.ld)) <;> (intro g; (try simp only [ZGS] at g); try (exfalso; omega)))))
    clear e3 hc3 hx3 hxl3 hcl3 hn3 hm3 hd3 hM3 hA3'
    obtain ⟨e4, hc4, hx4, hxl4, hcl4, hn4, hm4, hd4, hM4, hA4'⟩ := P4.out
    refine Ok.unroll ?_
    (repeat' (first | (simp -implicitDefEqProofs (maxSteps := 1000000) (disch := first | assumption | omega | (simp only [ZDI]; omega)) only [*,lenV,bV_take,bV_len,List.drop_zero,Nat.zero_add,Nat.mul_one,G38,Za,Zb,Zc,Zd,Ze,Zf,Zg,Zh,Zi,Zj,Zk,Zl,Zm,Zn,Zo,Ja,Jb,Jc,J6,Jd,Je,J7,J8,Jf,Jg,Jh,Ji,Jj,Jk,J9,Jl,Jm,wr,Jn,JA,JB,Jo,Jp,Jq,Jr,Js,Jt,Ju,Jv,Jw,Jx,Jy,Jz,J0,J1,J2,J3,J4,J5,reduceCtorEq,JC,JD,JE,JF,JG,JH,JI,JJ]) | ((with_reducible (first | apply Ok.br | apply Ok.gd | apply Ok.ld)) <;> (intro g; (try simp only [ZGS] at g); try (exfalso; omega)))))
    clear e4 hc4 hx4 hxl4 hcl4 hn4 hm4 hd4 hM4 hA4'
    obtain ⟨e5, hc5, hx5, hxl5, hcl5, hn5, hm5, hd5, hM5, hA5'⟩ := P5.out
    refine Ok.unroll ?_
    (repeat' (first | (simp -implicitDefEqProofs (maxSteps := 1000000) (disch := first | assumption | omega | (simp only [ZDI]; omega)) only [*,lenV,bV_take,bV_len,List.drop_zero,Nat.zero_add,Nat.mul_one,G38,Za,Zb,Zc,Zd,Ze,Zf,Zg,Zh,Zi,Zj,Zk,Zl,Zm,Zn,Zo,Ja,Jb,Jc,J6,Jd,Je,J7,J8,Jf,Jg,Jh,Ji,Jj,Jk,J9,Jl,Jm,wr,Jn,JA,JB,Jo,Jp,Jq,Jr,Js,Jt,Ju,Jv,Jw,Jx,Jy,Jz,J0,J1,J2,J3,J4,J5,reduceCtorEq,JC,JD,JE,JF,JG,JH,JI,JJ]) | ((with_reducible (first | apply Ok.br | apply Ok.gd | apply Ok.ld)) <;> (intro g; (try simp only [ZGS] at g); try (exfalso; omega)))))
    clear e5 hc5 hx5 hxl5 hcl5 hn5 hm5 hd5 hM5 hA5'
    obtain ⟨e6, hc6, hx6, hxl6, hcl6, hn6, hm6, hd6, hM6, hA6'⟩ := P6.out
    refine Ok.unroll ?_
    (repeat' (first | (simp -implicitDefEqProofs (maxSteps := 1000000) (disch := first | assumption | omega | (simp only [ZDI]; omega)) only [*,lenV,bV_take,bV_len,List.drop_zero,Nat.zero_add,Nat.mul_one,G38,Za,Zb,Zc,Zd,Ze,Zf,Zg,Zh,Zi,Zj,Zk,Zl,Zm,Zn,Zo,Ja,Jb,Jc,J6,Jd,Je,J7,J8,Jf,Jg,Jh,Ji,Jj,Jk,J9,Jl,Jm,wr,Jn,JA,JB,Jo,Jp,Jq,Jr,Js,Jt,Ju,Jv,Jw,Jx,Jy,Jz,J0,J1,J2,J3,J4,J5,reduceCtorEq,JC,JD,JE,JF,JG,JH,JI,JJ]) | ((with_reducible (first | apply Ok.br | apply Ok.gd | apply Ok.ld)) <;> (intro g; (try simp only [ZGS] at g); try (exfalso; omega)))))
    clear e6 hc6 hx6 hxl6 hcl6 hn6 hm6 hd6 hM6 hA6'
    obtain ⟨e7, hc7, hx7, hxl7, hcl7, hn7, hm7, hd7, hM7, hA7'⟩ := P7.out
    refine Ok.unroll ?_
    (repeat' (first | (simp -implicitDefEqProofs (maxSteps := 1000000) (disch := first | assumption | omega | (simp only [ZDI]; omega)) only [*,lenV,bV_take,bV_len,List.drop_zero,Nat.zero_add,Nat.mul_one,G38,Za,Zb,Zc,Zd,Ze,Zf,Zg,Zh,Zi,Zj,Zk,Zl,Zm,Zn,Zo,Ja,Jb,Jc,J6,Jd,Je,J7,J8,Jf,Jg,Jh,Ji,Jj,Jk,J9,Jl,Jm,wr,Jn,JA,JB,Jo,Jp,Jq,Jr,Js,Jt,Ju,Jv,Jw,Jx,Jy,Jz,J0,J1,J2,J3,J4,J5,reduceCtorEq,JC,JD,JE,JF,JG,JH,JI,JJ]) | ((with_reducible (first | apply Ok.br | apply Ok.gd | apply Ok.ld)) <;> (intro g; (try simp only [ZGS] at g); try (exfalso; omega)))))
    clear e7 hc7 hx7 hxl7 hcl7 hn7 hm7 hd7 hM7 hA7'
    obtain ⟨hn8, hd8, hM8⟩ := P8.out
    obtain ⟨e9, hc9, hx9, hxl9, hcl9, hn9, hm9, hd9, hM9, hA9'⟩ := P9.out
    obtain ⟨e10, hc10, hx10, hxl10, hcl10, hn10, hm10, hd10, hM10, hA10'⟩ := P10.out
    obtain ⟨e11, hc11, hx11, hxl11, hcl11, hn11, hm11, hd11, hM11, hA11'⟩ := P11.out
    have hxl7 : H1.length < H7.length := by obtain ⟨_, _, _, z, _⟩ := P7.out; exact z
    refine Ok.unroll ?_
    (repeat' (first | (simp -implicitDefEqProofs (maxSteps := 1000000) (disch := first | assumption | omega | (simp only [ZDI]; omega)) only [*,lenV,bV_take,bV_len,List.drop_zero,Nat.zero_add,Nat.mul_one,G38,Za,Zb,Zc,Zd,Ze,Zf,Zg,Zh,Zi,Zj,Zk,Zl,Zm,Zn,Zo,Ja,Jb,Jc,J6,Jd,Je,J7,J8,Jf,Jg,Jh,Ji,Jj,Jk,J9,Jl,Jm,wr,Jn,JA,JB,Jo,Jp,Jq,Jr,Js,Jt,Ju,Jv,Jw,Jx,Jy,Jz,J0,J1,J2,J3,J4,J5,reduceCtorEq,JC,JD,JE,JF,JG,JH,JI,JJ]) | ((with_reducible (first | apply Ok.br | apply Ok.gd | apply Ok.ld)) <;> (intro g; (try simp only [ZGS] at g); try (exfalso; omega)))))
    clear hn8 hd8 hM8 e9 hc9 hx9 hxl9 hcl9 hn9 hm9 hd9 hM9 hA9' e10 hc10 hx10 hxl10 hcl10 hn10 hm10 hd10 hM10 hA10' e11 hc11 hx11 hcl11 hn11 hm11 hd11 hM11 hA11' hA8' P1 P2 P3 P4 P5 P6 P7 P8 P9 P10 P11 hu
    refine Ok.loop [BF, BF, BF, BT, BF, BF, BF, BT, BF, BF, BF, BF, BF, BF, BF, BF, BF, BF, BF, BF, BF, BF, BF, BF, BF, BF, BF, BF, BF, BF, BF, BF, BF, BF, BF, BF, BF, BF, BF, BF, BF, BF, BF, BF, BF, BF, BF, BF, BF, BF, BF, BF, BF, BF, BF, BF, BF, BF, BF, BF, BF, BF, BF, BF, BF, BF, BF, BT, BT, BT, BT, BT, BT, BT, BT, BT, BT, BT, BT, BT, BT, BT, BF] (fun n s2 => ∃ (i q' w : Nat) (q : List V) (A : List UInt8) (y1 y3 y4 y5 : Nat × List V), n = x.pl.length - i /\ i <= x.pl.length /\ tv s2.e 67 = .v (.int .i64 i) /\ tv s2.e 3 = .v (.sl (.at H1.length q' 0) A.length A.length 1) /\ s2.l = [y1, (w, q), y3, y4, y5] /\ A = A11 ++ refsE (x.pl.take i) /\ hcells s2.h H1.length q' = some (true, bV A) /\ Keeps [] H s2.h)
      (fun y s2 => y = .exit 2 /\ ∃ (q' w : Nat) (q : List V) (A : List UInt8) (y1 y3 y4 y5 : Nat × List V), tv s2.e 3 = .v (.sl (.at H1.length q' 0) A.length A.length 1) /\ s2.l = [y1, (w, q), y3, y4, y5] /\ A = A11 ++ refsE x.pl /\ hcells s2.h H1.length q' = some (true, bV A) /\ Keeps [] H s2.h)
      (x.pl.length - 0) ⟨0, _, _, _, A11, _, _, _, _, rfl, Nat.zero_le _, rfl, rfl, rfl, by simp [refsE], ha'.out, hKa'.out⟩ ?_ ?_
    · intro n ⟨e', l', g⟩ hW ⟨i, q', w, q, A, y1, y3, y4, y5, hm, hi, h67, h3, k2, hA, hcA, hkg⟩
      dsimp only at hW h67 h3 k2 hcA hkg
      subst l'
      rw [hW.spread]
      simp only [spread_t,spread_f,spread_n,Nat.zero_add,Nat.reduceAdd,h67,h3]
      clear hW hQ'
      by_cases hlt : i < x.pl.length
      · have hlt' : (i : Int) < (x.pl.length : Int) := by omega
        have g1 : 0 <= (i : Int) /\ (i : Int) < (x.pl.length : Int) := by omega
        rcases h2 with h2 | ⟨bb, qq, oo, rw, full, rfl, hbc, hfull, ho'⟩
        · rw [h2] at hlt; simp at hlt
        · obtain ⟨k, hy⟩ : ∃ k, x.pl[i]? = some k := ⟨_, List.getElem?_eq_getElem hlt⟩
          have hf := hfull i _ hy
          have ho2 : oo + i * 2 + 2 <= full.length := by omega
          have hbc2 := hkg.cells hbc (by simp)
          obtain ⟨i1, i2⟩ := hps.out k (List.mem_of_getElem? hy)
          have hrl := refsE_len (x.pl.take i) fun x hx => hps.out x (List.mem_of_mem_take hx)
          rw [List.length_take] at hrl
          have hAl : A.length <= 2000010000 + 22 * 5000 := by rw [hA, List.length_append]; omega
          have t1 := intE_len i1
          have t2 := intE_len i2
          have t3 := intE_pos k.1
          have t4 := intE_pos k.2
          obtain ⟨c6, r6, z6, H6, e6, hc6, hx6, hxl6, hcl6, hK6, hs6⟩ := doc_step (rInt_at i1) hkg hb1'.out hcA
          obtain ⟨A6, hA6⟩ : ∃ B, B = A ++ intE k.1 := ⟨_, rfl⟩
          obtain ⟨hA6', hn6, ha6, hKa6⟩ := hs6 A6 hA6
          have hbc3 := hK6.cells hbc (by simp)
          obtain ⟨c9, r9, z9, H8, e8, hc8, hx8, hxl8, hcl8, hK8, hs8⟩ := doc_step (rInt_at i2) hKa6 hb1'.out ha6
          obtain ⟨B8, hA8⟩ : ∃ B, B = A6 ++ intE k.2 := ⟨_, rfl⟩
          obtain ⟨hB8', hn8, ha8, hKa8⟩ := hs8 B8 hA8
          have hAn : Hid (B8 = A11 ++ refsE (x.pl.take (i + 1))) := ⟨by rw [hA8, hA6, hA, refsE_snoc hy, List.append_assoc, List.append_assoc]; rfl⟩
          have ha8' := Hid.mk ha8
          have hKa8' := Hid.mk hKa8
          have hm6 : ¬ (intE k.1).length = 0 := by omega
          have hd6 : ¬ A6.length <= A.length := by omega
          have hM6 : A6.length * 1 <= 35184372088832 /\ A6.length <= 35184372088832 := by omega
          have hm8 : ¬ (intE k.2).length = 0 := by omega
          have hd8 : ¬ B8.length <= A6.length := by omega
          have hM8 : B8.length * 1 <= 35184372088832 /\ B8.length <= 35184372088832 := by omega
          clear hfull hy hbc hs6 ha6 hKa6 hK6 hA6 hs8 ha8 hKa8 hK8 hA8 hA hcA hkg hrl t1 t2 t3 t4 hAl
          (repeat' (first | (simp -implicitDefEqProofs (maxSteps := 1000000) (disch := first | assumption | omega | (simp only [ZDI]; omega)) only [*,lenV,bV_take,bV_len,List.drop_zero,Nat.zero_add,Nat.mul_one,G38,Za,Zb,Zc,Zd,Ze,Zf,Zg,Zh,Zi,Zj,Zk,Zl,Zm,Zn,Zo,Ja,Jb,Jc,J6,Jd,Je,J7,J8,Jf,Jg,Jh,Ji,Jj,Jk,J9,Jl,Jm,wr,Jn,JA,JB,Jo,Jp,Jq,Jr,Js,Jt,Ju,Jv,Jw,Jx,Jy,Jz,J0,J1,J2,J3,J4,J5,reduceCtorEq,JC,JD,JE,JF,JG,JH,JI,JJ]) | ((with_reducible (first | apply Ok.br | apply Ok.gd | apply Ok.ld)) <;> (intro g; (try simp only [ZGS] at g); try (exfalso; omega)))))
          exact Turn.next (x.pl.length - (i + 1)) (by omega) ⟨rfl, i + 1, _, _, _, B8, _, _, _, _, rfl, by omega, rfl, rfl, rfl, hAn.out, ha8'.out, hKa8'.out⟩
      · have hlt' : ¬ (i : Int) < (x.pl.length : Int) := by omega
        rw [List.take_of_length_le (by omega)] at hA
        have hA' := Hid.mk hA
        have hc' := Hid.mk hcA
        have hk' := Hid.mk hkg
        clear hA hcA hkg
        (repeat' (first | (simp -implicitDefEqProofs (maxSteps := 1000000) (disch := first | assumption | omega | (simp only [ZDI]; omega)) only [*,lenV,G38,Za,Zb,Zc,Zd,Ze,Zf,Zg,Zh,Zi,Zj,Zk,Zl,Zm,Zn,Zo,Ja,Jb,Jc,J6,Jd,Je,J7,J8,Jf,Jg,Jh,Ji,Jj,Jk,J9,Jl,Jm,wr,Jn,JA,JB,Jo,Jp,Jq,Jr,Js,Jt,Ju,Jv,Jw,Jx,Jy,Jz,J0,J1,J2,J3,J4,J5,reduceCtorEq,JC,JD,JE,JF,JG,JH,JI,JJ]) | ((with_reducible (first | apply Ok.br | apply Ok.gd | apply Ok.ld)) <;> (intro g; (try simp only [ZGS] at g); try (exfalso; omega)))))
        exact Turn.exit ⟨rfl, rfl, q', w, q, A, _, _, _, _, rfl, rfl, hA'.out, hc'.out, hk'.out⟩
    · intro y ⟨e', l', g⟩ hW ⟨hy, q', w, q, A, y1, y3, y4, y5, h3, k2, hA, hcA, hkg⟩
      dsimp only at hW h3 k2 hcA hkg
      subst l' hy
      rw [hW.spread]
      clear hW
      simp only [spread_t,spread_f,spread_n,Nat.zero_add,Nat.reduceAdd,h3]
      have hq := Hid.mk (hQ'.out (.sl (.at H1.length q' 0) A.length A.length 1, g) ⟨H1.length, q', 1, by rw [<- hcmd.out, <- hA], .inr rfl, by rw [<- hcmd.out, <- hA]; exact hcA, hb1'.out, hkg⟩)
      clear hQ' hcA hkg hA
      (repeat' (first | (simp -implicitDefEqProofs (maxSteps := 1000000) (disch := first | assumption | omega | (simp only [ZDI]; omega)) only [*,G38,Za,Zb,Zc,Zd,Ze,Zf,Zg,Zh,Zi,Zj,Zk,Zl,Zm,Zn,Zo,Ja,Jb,Jc,J6,Jd,Je,J7,J8,Jf,Jg,Jh,Ji,Jj,Jk,J9,Jl,Jm,wr,Jn,JA,JB,Jo,Jp,Jq,Jr,Js,Jt,Ju,Jv,Jw,Jx,Jy,Jz,J0,J1,J2,J3,J4,J5,reduceCtorEq,JC,JD,JE,JF,JG,JH,JI,JJ]) | ((with_reducible (first | apply Ok.br | apply Ok.gd | apply Ok.ld)) <;> (intro g; (try simp only [ZGS] at g); try (exfalso; omega)))))
      exact hq.out
end Go.Ev
set_option maxRecDepth 100000
namespace Go.Ev
open Go.Ev renaming exPure -> Ja, ofValue -> Jb, cellsV -> Jc, load -> Jd, store -> Je, binOp -> Jf, intOp -> Jg, rdV -> Jh, vsame -> Ji, vsames -> Jj, makeSliceV -> Jk, resV -> Jl, isCell -> Jm, nilCheckV -> Jn, allV -> Jo, builtinV -> Jp, lenV -> Jq, indexAddrV -> Jr, unOp -> Js, minmaxV -> Jt, minmax -> Ju, sliceV -> Jv, asInt -> Jw, appendV -> Jx, forkB -> Jy, roY -> Jz, rwB -> J0, copyV -> J1, clearV -> J2, convV -> J3, sliceCells -> J4, shift -> J5
open Bool renaming true -> BT, false -> BF
open Nat renaming reduceEqDiff -> J6, reduceLT -> J7, reduceAdd -> J8, reduceBEq -> J9, reduceSub -> JA, reduceMul -> JB, reduceLeDiff -> JJ
open Int renaming reduceLT -> JC, reduceLE -> JD, reduceAdd -> JE, reduceSub -> JF, reduceNeg -> JG, reduceToNat -> JH, reduceEq -> JI
open Go.Proofs
def KeptAt (H : Heap) (p : Nat) (v : V) (bs : List UInt8) : Prop := (bs = [] /\ v = .sl .nil 0 0 0) \/ ∃ b, b ≠ p /\ v = .sl (.at b 0 0) bs.length bs.length 1 /\ hcells H b 0 = some (true, bV bs)
structure RdAt (H : Heap) (p : Nat) (v : V) (bs : List UInt8) (st : Option (List UInt8)) : Prop where
  kept : KeptAt H p v bs
  cells : ∃ k : Nat, k <= bs.length /\ (∀ r, st = some r -> r = bs.drop k) /\ hcells H p 0 = some (true, [v, .int .i64 k, .bool st.isNone])
  room : bs.length < 35184372088832
theorem KeptAt.form {H : Heap} {p : Nat} {v : V} {bs : List UInt8} (h : KeptAt H p v bs) : ∃ a c z, v = .sl a bs.length c z := by
  rcases h with ⟨rfl, rfl⟩ | ⟨b, _, rfl, _⟩
  · exact ⟨_, _, _, rfl⟩
  · exact ⟨_, _, _, rfl⟩
theorem KeptAt.keep {H H' : Heap} {p : Nat} {v : V} {bs : List UInt8} (h : KeptAt H p v bs) (hk : Keeps [p] H H') : KeptAt H' p v bs := by
  rcases h with h | ⟨b, h1, h2, h3⟩
  · exact .inl h
  · exact .inr ⟨b, h1, h2, hk.cells h3 (by simpa using h1)⟩
theorem RdAt.keep {H H' : Heap} {p : Nat} {v : V} {bs : List UInt8} {st : Option (List UInt8)} (h : RdAt H p v bs st) (hk : Keeps [] H H') : RdAt H' p v bs st := by
  obtain ⟨k, h1, h2, h3⟩ := h.cells
  exact ⟨h.kept.keep (hk.mono fun _ _ h => by simp at h), ⟨k, h1, h2, hk.cells h3 (by simp)⟩, h.room⟩
def leftN : Option (List UInt8) -> Nat
  | none => 0
  | some r => r.length
theorem rdBad_at {H : Heap} {p : Nat} {v : V} {bs : List UInt8} {st : Option (List UInt8)} (h : RdAt H p v bs st) : D X (.fn 42 []) [.ptr p 0 0] H = some (.bool st.isNone, H) := by
  obtain ⟨k, _, _, h1⟩ := h.cells
  clear h
  generalize st.isNone = q at h1 ⊢
  refine Ok.eq ?_
  (refine Ok.body body42 pin42 ?_; simp only [c42,Try.f42,Option.getD_some,nslot42,List.append_nil,List.map,List.replicate,List.length_cons,List.length_nil,Nat.reduceAdd,Nat.reduceSub,List.cons_append,List.nil_append])
  (repeat' (first | (simp -implicitDefEqProofs (maxSteps := 1000000) (disch := first | assumption | omega | (simp only [ZDI]; omega)) only [*,G42,Za,Zb,Zc,Zd,Ze,Zf,Zg,Zh,Zi,Zj,Zk,Zl,Zm,Zn,Zo,Ja,Jb,Jc,J6,Jd,Je,J7,J8,Jf,Jg,Jh,Ji,Jj,Jk,J9,Jl,Jm,wr,Jn,JA,JB,Jo,Jp,Jq,Jr,Js,Jt,Ju,Jv,Jw,Jx,Jy,Jz,J0,J1,J2,J3,J4,J5,reduceCtorEq,JC,JD,JE,JF,JG,JH,JI,JJ]) | ((with_reducible (first | apply Ok.br | apply Ok.gd | apply Ok.ld)) <;> (intro g; (try simp only [ZGS] at g); try (exfalso; omega)))))
theorem rdLeft_at {H : Heap} {p : Nat} {v : V} {bs : List UInt8} {st : Option (List UInt8)} (h : RdAt H p v bs st) : D X (.fn 41 []) [.ptr p 0 0] H = some (.int .i64 (leftN st : Nat), H) := by
  have hb := rdBad_at h
  obtain ⟨k, hk, hr, h1⟩ := h.cells
  obtain ⟨a, c, z, rfl⟩ := h.kept.form
  have hroom := h.room
  clear h
  refine Ok.eq ?_
  cases st with
  | none =>
    simp only [Option.isNone_none] at hb h1
    clear hr
    show Ev.Ok (D X (.fn 41 []) [.ptr p 0 0] H) fun x => x = (.int .i64 0, H)
    (refine Ok.body body41 pin41 ?_; simp only [c41,Try.f41,Option.getD_some,nslot41,List.append_nil,List.map,List.replicate,List.length_cons,List.length_nil,Nat.reduceAdd,Nat.reduceSub,List.cons_append,List.nil_append])
    (repeat' (first | (simp -implicitDefEqProofs (maxSteps := 1000000) (disch := first | assumption | omega | (simp only [ZDI]; omega)) only [*,G41,Za,Zb,Zc,Zd,Ze,Zf,Zg,Zh,Zi,Zj,Zk,Zl,Zm,Zn,Zo,Ja,Jb,Jc,J6,Jd,Je,J7,J8,Jf,Jg,Jh,Ji,Jj,Jk,J9,Jl,Jm,wr,Jn,JA,JB,Jo,Jp,Jq,Jr,Js,Jt,Ju,Jv,Jw,Jx,Jy,Jz,J0,J1,J2,J3,J4,J5,reduceCtorEq,JC,JD,JE,JF,JG,JH,JI,JJ]) | ((with_reducible (first | apply Ok.br | apply Ok.gd | apply Ok.ld)) <;> (intro g; (try simp only [ZGS] at g); try (exfalso; omega)))))
  | some r =>
    simp only [Option.isNone_some] at hb h1
    have e := hr r rfl
    subst e
    have hl : (bs.length : Int) - (k : Int) = ((leftN (some (bs.drop k)) : Nat) : Int) := by
      show _ = (((bs.drop k).length : Nat) : Int)
      rw [List.length_drop]; omega
    generalize leftN (some (bs.drop k)) = m at hl ⊢
    clear hr
    (refine Ok.body body41 pin41 ?_; simp only [c41,Try.f41,Option.getD_some,nslot41,List.append_nil,List.map,List.replicate,List.length_cons,List.length_nil,Nat.reduceAdd,Nat.reduceSub,List.cons_append,List.nil_append])
    (repeat' (first | (simp -implicitDefEqProofs (maxSteps := 1000000) (disch := first | assumption | omega | (simp only [ZDI]; omega)) only [*,lenV,G41,Za,Zb,Zc,Zd,Ze,Zf,Zg,Zh,Zi,Zj,Zk,Zl,Zm,Zn,Zo,Ja,Jb,Jc,J6,Jd,Je,J7,J8,Jf,Jg,Jh,Ji,Jj,Jk,J9,Jl,Jm,wr,Jn,JA,JB,Jo,Jp,Jq,Jr,Js,Jt,Ju,Jv,Jw,Jx,Jy,Jz,J0,J1,J2,J3,J4,J5,reduceCtorEq,JC,JD,JE,JF,JG,JH,JI,JJ]) | ((with_reducible (first | apply Ok.br | apply Ok.gd | apply Ok.ld)) <;> (intro g; (try simp only [ZGS] at g); try (exfalso; omega)))))
theorem rdFail_at {H : Heap} {p : Nat} {v : V} {bs : List UInt8} {st : Option (List UInt8)} (h : RdAt H p v bs st) : D X (.fn 92 []) [.ptr p 0 0] H = some (.tup [], H.set p (.cells 0 true [v, .int .i64 bs.length, .bool true])) := by
  obtain ⟨k, hk, hr, h1⟩ := h.cells
  obtain ⟨a, c, z, rfl⟩ := h.kept.form
  have hp := hcells_lt h1
  clear h hr
  generalize st.isNone = q at h1
  refine Ok.eq ?_
  (refine Ok.body body92 pin92 ?_; simp only [c92,Try.f92,Option.getD_some,nslot92,List.append_nil,List.map,List.replicate,List.length_cons,List.length_nil,Nat.reduceAdd,Nat.reduceSub,List.cons_append,List.nil_append])
  (repeat' (first | (simp -implicitDefEqProofs (maxSteps := 1000000) (disch := first | assumption | omega | (simp only [ZDI]; omega)) only [*,lenV,G92,Za,Zb,Zc,Zd,Ze,Zf,Zg,Zh,Zi,Zj,Zk,Zl,Zm,Zn,Zo,Ja,Jb,Jc,J6,Jd,Je,J7,J8,Jf,Jg,Jh,Ji,Jj,Jk,J9,Jl,Jm,wr,Jn,JA,JB,Jo,Jp,Jq,Jr,Js,Jt,Ju,Jv,Jw,Jx,Jy,Jz,J0,J1,J2,J3,J4,J5,reduceCtorEq,JC,JD,JE,JF,JG,JH,JI,JJ]) | ((with_reducible (first | apply Ok.br | apply Ok.gd | apply Ok.ld)) <;> (intro g; (try simp only [ZGS] at g); try (exfalso; omega)))))
theorem RdAt.fail {H : Heap} {p : Nat} {v : V} {bs : List UInt8} {st : Option (List UInt8)} (h : RdAt H p v bs st) : RdAt (H.set p (.cells 0 true [v, .int .i64 bs.length, .bool true])) p v bs none /\ Keeps [p] H (H.set p (.cells 0 true [v, .int .i64 bs.length, .bool true])) := by
  obtain ⟨k, hk, hr, h1⟩ := h.cells
  have hK : Keeps [p] H (H.set p (.cells 0 true [v, .int .i64 bs.length, .bool true])) := (Keeps.refl _ _).set (.inl (by simp)) _
  exact ⟨⟨h.kept.keep hK, ⟨bs.length, Nat.le_refl _, (fun r h => by cases h), hcells_set_eq (hcells_lt h1)⟩, h.room⟩, hK⟩
abbrev Dec (α : Type) := List UInt8 -> Option (α × List UInt8)
def Took {α : Type} (dec : Dec α) (d : α) (f : α -> V) (p : Nat) (v : V) (bs : List UInt8) (st : Option (List UInt8)) (H : Heap) (y : V × Heap) : Prop :=
  y.1 = f (((st.bind dec).map (·.1)).getD d) /\ RdAt y.2 p v bs ((st.bind dec).map (·.2)) /\ Keeps [p] H y.2
def byteD : Dec UInt8
  | [] => none
  | c :: r => some (c, r)
set_option maxHeartbeats 4000000 in
theorem rdByte_at {H : Heap} {p : Nat} {v : V} {bs : List UInt8} {st : Option (List UInt8)} (h : RdAt H p v bs st) : Ev.Ok (D X (.fn 90 []) [.ptr p 0 0] H) (Took byteD 0 (fun c => .int .u8 (c.toNat : Nat)) p v bs st H) := by
  refine Ok.aim fun Q hQ => ?_
  have hQ' := Hid.mk hQ
  clear hQ
  have hl := rdLeft_at h
  have hf := rdFail_at h
  obtain ⟨f1, f2⟩ := h.fail
  by_cases hz : leftN st = 0
  · have hst : st.bind byteD = none := by
      cases st with
      | none => rfl
      | some r =>
        have : r = [] := List.length_eq_zero_iff.1 hz
        subst this; rfl
    have hfin : Hid (Q (.int .u8 0, H.set p (.cells 0 true [v, .int .i64 bs.length, .bool true]))) := ⟨hQ'.out _ ⟨by rw [hst]; rfl, by rw [hst]; exact f1, f2⟩⟩
    rw [hz] at hl
    clear hQ' h f1 f2 hst hz
    (refine Ok.body body90 pin90 ?_; simp only [c90,Try.f90,Option.getD_some,nslot90,List.append_nil,List.map,List.replicate,List.length_cons,List.length_nil,Nat.reduceAdd,Nat.reduceSub,List.cons_append,List.nil_append])
    (repeat' (first | (simp -implicitDefEqProofs (maxSteps := 1000000) (disch := first | assumption | omega | (simp only [ZDI]; omega)) only [*,G90,Za,Zb,Zc,Zd,Ze,Zf,Zg,Zh,Zi,Zj,Zk,Zl,Zm,Zn,Zo,Ja,Jb,Jc,J6,Jd,Je,J7,J8,Jf,Jg,Jh,Ji,Jj,Jk,J9,Jl,Jm,wr,Jn,JA,JB,Jo,Jp,Jq,Jr,Js,Jt,Ju,Jv,Jw,Jx,Jy,Jz,J0,J1,J2,J3,J4,J5,reduceCtorEq,JC,JD,JE,JF,JG,JH,JI,JJ]) | ((with_reducible (first | apply Ok.br | apply Ok.gd | apply Ok.ld)) <;> (intro g; (try simp only [ZGS] at g); try (exfalso; omega)))))
    exact hfin.out
  · cases st with
    | none => exact absurd rfl hz
    | some r =>
      cases r with
      | nil => exact absurd rfl hz
      | cons c r =>
        obtain ⟨k, hk, hr, h1⟩ := h.cells
        have hroom := h.room
        have hr := hr _ rfl
        have hget : bs[k]? = some c := by
          have := congrArg (fun l => l[0]?) hr
          simp only [List.getElem?_cons_zero,List.getElem?_drop,Nat.add_zero] at this
          exact this.symm
        have hrest : r = bs.drop (k + 1) := by
          have := congrArg (fun l => l.drop 1) hr
          simpa [List.drop_drop] using this
        have hklt : k < bs.length := (List.getElem?_eq_some_iff.1 hget).1
        rcases h.kept with ⟨e, _⟩ | ⟨b, hbp, hv, hbc⟩
        · subst e; simp at hget
        · have hkept := h.kept
          subst hv
          have hp := hcells_lt h1
          have hb := hcells_lt hbc
          have hcell : (bV bs)[k]? = some (.int .u8 (c.toNat : Nat)) := by unfold bV; rw [List.getElem?_map, hget]; rfl
          have hK : Keeps [p] H (H.set p (.cells 0 true [.sl (.at b 0 0) bs.length bs.length 1, .int .i64 ((k + 1 : Nat) : Int), .bool false])) := (Keeps.refl _ _).set (.inl (by simp)) _
          have hfin : Hid (Q (.int .u8 (c.toNat : Nat), H.set p (.cells 0 true [.sl (.at b 0 0) bs.length bs.length 1, .int .i64 ((k + 1 : Nat) : Int), .bool false]))) :=
            ⟨hQ'.out _ ⟨rfl, ⟨hkept.keep hK, ⟨k + 1, by omega, (fun r' e => by cases e; exact hrest), hcells_set_eq hp⟩, hroom⟩, hK⟩⟩
          have hL : ¬ ((leftN (some (c :: r)) : Nat) : Int) = 0 := by omega
          generalize leftN (some (c :: r)) = m at hl hL
          simp only [Option.isNone_some] at h1
          have hk1 : (k : Int) + 1 = ((k + 1 : Nat) : Int) := by omega
          have hk2 : ((k + 1 : Nat) : Int) - 1 = (k : Int) := by omega
          have hle : bs.length <= (bV bs).length := by rw [bV_len]; exact Nat.le_refl _
          have g1 : 0 <= (k : Int) /\ (k : Int) < (bs.length : Int) := by omega
          have hblen : (bV bs).length = bs.length := bV_len bs
          clear hQ' h f1 f2 hr hget hrest hkept hK hz hf
          (refine Ok.body body90 pin90 ?_; simp only [c90,Try.f90,Option.getD_some,nslot90,List.append_nil,List.map,List.replicate,List.length_cons,List.length_nil,Nat.reduceAdd,Nat.reduceSub,List.cons_append,List.nil_append])
          (repeat' (first | (simp -implicitDefEqProofs (maxSteps := 1000000) (disch := first | assumption | omega | (simp only [ZDI]; omega)) only [*,lenV,Nat.zero_add,Nat.mul_one,G90,Za,Zb,Zc,Zd,Ze,Zf,Zg,Zh,Zi,Zj,Zk,Zl,Zm,Zn,Zo,Ja,Jb,Jc,J6,Jd,Je,J7,J8,Jf,Jg,Jh,Ji,Jj,Jk,J9,Jl,Jm,wr,Jn,JA,JB,Jo,Jp,Jq,Jr,Js,Jt,Ju,Jv,Jw,Jx,Jy,Jz,J0,J1,J2,J3,J4,J5,reduceCtorEq,JC,JD,JE,JF,JG,JH,JI,JJ]) | ((with_reducible (first | apply Ok.br | apply Ok.gd | apply Ok.ld)) <;> (intro g; (try simp only [ZGS] at g); try (exfalso; omega)))))
          exact hfin.out
end Go.Ev
