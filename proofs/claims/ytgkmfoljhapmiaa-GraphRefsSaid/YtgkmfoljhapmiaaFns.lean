/-
What the symbolic runs are told of this seat's functions. Printed by a program (tools/facts.py).
-/
import Derived.Test.YtgkmfoljhapmiaaChk
import Derived.Test.YtgkmfoljhapmiaaRun
import Derived.KernelRfl
set_option linter.unusedSimpArgs false
set_option linter.unusedVariables false
namespace Go.Ev
open Go.Proofs

noncomputable def c2 : Code := (Try.f2.body).getD .skip
theorem body2 : X.body 2 = some (c2, 1, []) := by kernel_rfl
theorem slot2 : X.slot 2 = fun t => posT [] t 0 := rfl
theorem nslot2 : X.nslots 2 = 0 := rfl
theorem pin2 : X.pin 2 = none := rfl
noncomputable def c3 : Code := (Try.f3.body).getD .skip
theorem body3 : X.body 3 = some (c3, 85, [.tmp 4]) := by kernel_rfl
theorem slot3 : X.slot 3 = fun t => posT [7, 9] t 0 := rfl
theorem nslot3 : X.nslots 3 = 2 := rfl
theorem pin3 : X.pin 3 = none := rfl
theorem plan3_13 : X.plan 3 13 = [(0, [], []), (1, [], []), (2, [], []), (3, [], []), (4, [], []), (5, [], []), (6, [], []), (7, [], []), (8, [], []), (9, [], []), (10, [], []), (11, [], []), (12, [], []), (13, [], []), (14, [], []), (16, [], []), (17, [], []), (18, [], []), (19, [], []), (20, [], []), (21, [], []), (15, [], [(18, []), (21, [])]), (22, [], []), (23, [], []), (24, [], []), (25, [], [])] := by kernel_rfl
noncomputable def c4 : Code := (Try.f4.body).getD .skip
theorem body4 : X.body 4 = some (c4, 98, [.tmp 4]) := by kernel_rfl
theorem slot4 : X.slot 4 = fun t => posT [8, 11] t 0 := rfl
theorem nslot4 : X.nslots 4 = 2 := rfl
theorem pin4 : X.pin 4 = none := rfl
theorem plan4_13 : X.plan 4 13 = [(0, [], []), (1, [], []), (2, [], []), (3, [], []), (4, [1], []), (5, [], []), (6, [], []), (7, [], []), (8, [], []), (9, [], []), (10, [], []), (11, [], []), (12, [], []), (13, [], []), (14, [], []), (15, [1], []), (17, [0], []), (16, [], [(17, [0])]), (18, [], []), (19, [], []), (20, [], []), (21, [], [])] := by kernel_rfl
noncomputable def c5 : Code := (Try.f5.body).getD .skip
theorem body5 : X.body 5 = some (c5, 85, [.tmp 4]) := by kernel_rfl
theorem slot5 : X.slot 5 = fun t => posT [11, 13] t 0 := rfl
theorem nslot5 : X.nslots 5 = 2 := rfl
theorem pin5 : X.pin 5 = none := rfl
theorem plan5_11 : X.plan 5 11 = [(0, [], []), (1, [0], []), (3, [1], []), (2, [], [(3, [1])]), (4, [], []), (5, [], []), (6, [], []), (7, [], []), (8, [1], []), (10, [0], []), (9, [], [(10, [0])]), (11, [], []), (12, [], []), (13, [], [])] := by kernel_rfl
theorem plan5_12 : X.plan 5 12 = [(0, [], []), (1, [1], []), (3, [], []), (4, [0], []), (2, [], [(4, [0])]), (5, [], []), (6, [], []), (7, [], [])] := by kernel_rfl
noncomputable def c6 : Code := (Try.f6.body).getD .skip
theorem body6 : X.body 6 = some (c6, 105, [.tmp 4]) := by kernel_rfl
theorem slot6 : X.slot 6 = fun t => posT [14, 16] t 0 := rfl
theorem nslot6 : X.nslots 6 = 2 := rfl
theorem pin6 : X.pin 6 = none := rfl
theorem plan6_17 : X.plan 6 17 = [(0, [], []), (1, [1], []), (3, [], []), (4, [0], []), (2, [], [(4, [0])]), (5, [], []), (6, [], []), (7, [], []), (8, [], []), (9, [0], []), (11, [1], []), (10, [], [(11, [1])]), (12, [], []), (13, [], []), (14, [], []), (15, [1], []), (17, [0], []), (16, [], [(17, [0])]), (18, [], []), (19, [], []), (20, [], [])] := by kernel_rfl
noncomputable def c7 : Code := (Try.f7.body).getD .skip
theorem body7 : X.body 7 = some (c7, 105, [.tmp 6]) := by kernel_rfl
theorem slot7 : X.slot 7 = fun t => posT [9, 11, 15, 45] t 0 := rfl
theorem nslot7 : X.nslots 7 = 4 := rfl
theorem pin7 : X.pin 7 = none := rfl
noncomputable def c8 : Code := (Try.f8.body).getD .skip
theorem body8 : X.body 8 = some (c8, 87, [.tmp 2]) := by kernel_rfl
theorem slot8 : X.slot 8 = fun t => posT [7, 9, 14, 36, 48] t 0 := rfl
theorem nslot8 : X.nslots 8 = 5 := rfl
theorem pin8 : X.pin 8 = none := rfl
noncomputable def c9 : Code := (Try.f9.body).getD .skip
theorem body9 : X.body 9 = some (c9, 56, [.tmp 2]) := by kernel_rfl
theorem slot9 : X.slot 9 = fun t => posT [8] t 0 := rfl
theorem nslot9 : X.nslots 9 = 1 := rfl
theorem pin9 : X.pin 9 = none := rfl
theorem plan9_14 : X.plan 9 14 = [(0, [], []), (1, [], []), (2, [], []), (3, [], []), (4, [], []), (5, [], []), (6, [], []), (7, [0], []), (8, [0], []), (9, [], [])] := by kernel_rfl
noncomputable def c10 : Code := (Try.f10.body).getD .skip
theorem body10 : X.body 10 = some (c10, 77, [.tmp 4]) := by kernel_rfl
theorem slot10 : X.slot 10 = fun t => posT [] t 0 := rfl
theorem nslot10 : X.nslots 10 = 0 := rfl
theorem pin10 : X.pin 10 = none := rfl
theorem plan10_6 : X.plan 10 6 = [(1, [], []), (2, [], []), (3, [], []), (5, [], []), (6, [], []), (7, [], []), (0, [], []), (4, [], []), (8, [], []), (9, [], []), (10, [], [])] := by kernel_rfl
theorem plan10_14 : X.plan 10 14 = [(0, [], []), (1, [], []), (2, [], []), (3, [], []), (4, [], []), (5, [], []), (6, [], []), (7, [], []), (8, [], []), (9, [], []), (10, [], []), (11, [], []), (12, [], []), (13, [], []), (14, [], []), (15, [], []), (16, [], []), (17, [], [])] := by kernel_rfl
noncomputable def c11 : Code := (Try.f11.body).getD .skip
theorem body11 : X.body 11 = some (c11, 9, [.tmp 2]) := by kernel_rfl
theorem slot11 : X.slot 11 = fun t => posT [] t 0 := rfl
theorem nslot11 : X.nslots 11 = 0 := rfl
theorem pin11 : X.pin 11 = none := rfl
noncomputable def c12 : Code := (Try.f12.body).getD .skip
theorem body12 : X.body 12 = some (c12, 42, [.tmp 4]) := by kernel_rfl
theorem slot12 : X.slot 12 = fun t => posT [3, 8, 28, 32, 39] t 0 := rfl
theorem nslot12 : X.nslots 12 = 5 := rfl
theorem pin12 : X.pin 12 = none := rfl
noncomputable def c13 : Code := (Try.f13.body).getD .skip
theorem body13 : X.body 13 = some (c13, 20, [.tmp 4]) := by kernel_rfl
theorem slot13 : X.slot 13 = fun t => posT [2, 3] t 0 := rfl
theorem nslot13 : X.nslots 13 = 2 := rfl
theorem pin13 : X.pin 13 = none := rfl
noncomputable def c14 : Code := (Try.f14.body).getD .skip
theorem body14 : X.body 14 = some (c14, 24, [.tmp 4]) := by kernel_rfl
theorem slot14 : X.slot 14 = fun t => posT [2, 3] t 0 := rfl
theorem nslot14 : X.nslots 14 = 2 := rfl
theorem pin14 : X.pin 14 = none := rfl
noncomputable def c15 : Code := (Try.f15.body).getD .skip
theorem body15 : X.body 15 = some (c15, 26, [.tmp 4]) := by kernel_rfl
theorem slot15 : X.slot 15 = fun t => posT [] t 0 := rfl
theorem nslot15 : X.nslots 15 = 0 := rfl
theorem pin15 : X.pin 15 = none := rfl
theorem plan15_6 : X.plan 15 6 = [(0, [], []), (1, [], []), (2, [], []), (3, [], []), (4, [], []), (5, [], []), (6, [], []), (7, [], []), (8, [], [])] := by kernel_rfl
noncomputable def c16 : Code := (Try.f16.body).getD .skip
theorem body16 : X.body 16 = some (c16, 10, [.tmp 2]) := by kernel_rfl
theorem slot16 : X.slot 16 = fun t => posT [] t 0 := rfl
theorem nslot16 : X.nslots 16 = 0 := rfl
theorem pin16 : X.pin 16 = none := rfl
noncomputable def c17 : Code := (Try.f17.body).getD .skip
theorem body17 : X.body 17 = some (c17, 81, [.tmp 0]) := by kernel_rfl
theorem slot17 : X.slot 17 = fun t => posT [1, 2, 3] t 0 := rfl
theorem nslot17 : X.nslots 17 = 3 := rfl
theorem pin17 : X.pin 17 = some true := rfl
theorem plan17_5 : X.plan 17 5 = [(0, [], []), (1, [], []), (2, [], []), (3, [], []), (4, [], []), (5, [], []), (6, [], []), (7, [0], []), (8, [], []), (9, [], []), (10, [], []), (11, [], []), (12, [], []), (13, [], []), (14, [1], []), (15, [], []), (16, [], []), (17, [], []), (18, [], []), (19, [], []), (20, [], []), (21, [2], []), (22, [], []), (23, [], []), (24, [], []), (25, [], []), (26, [], []), (27, [], []), (28, [], []), (29, [], []), (30, [], []), (31, [], []), (32, [], []), (33, [], []), (34, [], []), (35, [], []), (36, [], []), (37, [], []), (38, [], []), (39, [], []), (40, [], []), (41, [], []), (42, [], []), (43, [0], []), (44, [], []), (45, [], []), (46, [], [])] := by kernel_rfl
noncomputable def c18 : Code := (Try.f18.body).getD .skip
theorem body18 : X.body 18 = some (c18, 23, [.tmp 2]) := by kernel_rfl
theorem slot18 : X.slot 18 = fun t => posT [5, 19] t 0 := rfl
theorem nslot18 : X.nslots 18 = 2 := rfl
theorem pin18 : X.pin 18 = none := rfl
noncomputable def c19 : Code := (Try.f19.body).getD .skip
theorem body19 : X.body 19 = some (c19, 31, [.tmp 2]) := by kernel_rfl
theorem slot19 : X.slot 19 = fun t => posT [5, 27] t 0 := rfl
theorem nslot19 : X.nslots 19 = 2 := rfl
theorem pin19 : X.pin 19 = none := rfl
noncomputable def c20 : Code := (Try.f20.body).getD .skip
theorem body20 : X.body 20 = some (c20, 109, [.tmp 4, .tmp 5]) := by kernel_rfl
theorem slot20 : X.slot 20 = fun t => posT [8] t 0 := rfl
theorem nslot20 : X.nslots 20 = 1 := rfl
theorem pin20 : X.pin 20 = none := rfl
theorem plan20_5 : X.plan 20 5 = [(0, [], []), (1, [0], []), (2, [], []), (3, [], []), (4, [], []), (5, [], []), (6, [], [])] := by kernel_rfl
noncomputable def c21 : Code := (Try.f21.body).getD .skip
theorem body21 : X.body 21 = some (c21, 20, [.tmp 4]) := by kernel_rfl
theorem slot21 : X.slot 21 = fun t => posT [3, 6] t 0 := rfl
theorem nslot21 : X.nslots 21 = 2 := rfl
theorem pin21 : X.pin 21 = none := rfl
noncomputable def c22 : Code := (Try.f22.body).getD .skip
theorem body22 : X.body 22 = some (c22, 17, [.tmp 4]) := by kernel_rfl
theorem slot22 : X.slot 22 = fun t => posT [3, 6] t 0 := rfl
theorem nslot22 : X.nslots 22 = 2 := rfl
theorem pin22 : X.pin 22 = none := rfl
noncomputable def c23 : Code := (Try.f23.body).getD .skip
theorem body23 : X.body 23 = some (c23, 19, [.tmp 4]) := by kernel_rfl
theorem slot23 : X.slot 23 = fun t => posT [3, 6] t 0 := rfl
theorem nslot23 : X.nslots 23 = 2 := rfl
theorem pin23 : X.pin 23 = none := rfl
noncomputable def c24 : Code := (Try.f24.body).getD .skip
theorem body24 : X.body 24 = some (c24, 62, [.tmp 6]) := by kernel_rfl
theorem slot24 : X.slot 24 = fun t => posT [5, 9, 12, 54, 58] t 0 := rfl
theorem nslot24 : X.nslots 24 = 5 := rfl
theorem pin24 : X.pin 24 = none := rfl
noncomputable def c25 : Code := (Try.f25.body).getD .skip
theorem body25 : X.body 25 = some (c25, 20, [.tmp 2]) := by kernel_rfl
theorem slot25 : X.slot 25 = fun t => posT [] t 0 := rfl
theorem nslot25 : X.nslots 25 = 0 := rfl
theorem pin25 : X.pin 25 = none := rfl
noncomputable def c26 : Code := (Try.f26.body).getD .skip
theorem body26 : X.body 26 = some (c26, 142, [.tmp 2]) := by kernel_rfl
theorem slot26 : X.slot 26 = fun t => posT [5, 11, 15, 18, 126, 137] t 0 := rfl
theorem nslot26 : X.nslots 26 = 6 := rfl
theorem pin26 : X.pin 26 = none := rfl
theorem plan26_22 : X.plan 26 22 = [(0, [], []), (1, [], []), (2, [], []), (3, [], []), (4, [], []), (5, [], []), (6, [], []), (7, [], []), (8, [2], []), (9, [2], []), (10, [], []), (11, [], []), (12, [], []), (13, [], []), (14, [], []), (15, [], []), (16, [1], []), (17, [1], []), (18, [], []), (19, [], []), (20, [], []), (21, [], [])] := by kernel_rfl
theorem plan26_25 : X.plan 26 25 = [(0, [], []), (1, [], []), (2, [], []), (3, [], []), (4, [], []), (5, [], []), (6, [], []), (7, [], []), (8, [2], []), (9, [2], []), (10, [], []), (11, [], []), (12, [], []), (13, [], []), (14, [], []), (15, [2], []), (16, [2], []), (17, [], []), (18, [], []), (19, [], []), (20, [], [])] := by kernel_rfl
theorem plan26_27 : X.plan 26 27 = [(0, [], []), (1, [], []), (2, [], []), (3, [], []), (4, [], []), (5, [], []), (6, [], []), (7, [], []), (8, [], []), (9, [], []), (10, [], []), (11, [], []), (12, [], []), (13, [], [])] := by kernel_rfl
noncomputable def c27 : Code := (Try.f27.body).getD .skip
theorem body27 : X.body 27 = some (c27, 36, [.tmp 2]) := by kernel_rfl
theorem slot27 : X.slot 27 = fun t => posT [] t 0 := rfl
theorem nslot27 : X.nslots 27 = 0 := rfl
theorem pin27 : X.pin 27 = none := rfl
noncomputable def c28 : Code := (Try.f28.body).getD .skip
theorem body28 : X.body 28 = some (c28, 14, []) := by kernel_rfl
theorem slot28 : X.slot 28 = fun t => posT [] t 0 := rfl
theorem nslot28 : X.nslots 28 = 0 := rfl
theorem pin28 : X.pin 28 = none := rfl
noncomputable def c29 : Code := (Try.f29.body).getD .skip
theorem body29 : X.body 29 = some (c29, 12, [.tmp 4]) := by kernel_rfl
theorem slot29 : X.slot 29 = fun t => posT [2, 3] t 0 := rfl
theorem nslot29 : X.nslots 29 = 2 := rfl
theorem pin29 : X.pin 29 = none := rfl
theorem plan29_1 : X.plan 29 1 = [(0, [0], []), (1, [1], []), (3, [1], []), (4, [0], []), (2, [], [(3, [1]), (4, [0])]), (5, [], []), (6, [], []), (7, [], [])] := by kernel_rfl
noncomputable def c30 : Code := (Try.f30.body).getD .skip
theorem body30 : X.body 30 = some (c30, 9, [.tmp 4]) := by kernel_rfl
theorem slot30 : X.slot 30 = fun t => posT [] t 0 := rfl
theorem nslot30 : X.nslots 30 = 0 := rfl
theorem pin30 : X.pin 30 = none := rfl
noncomputable def c31 : Code := (Try.f31.body).getD .skip
theorem body31 : X.body 31 = some (c31, 61, [.tmp 2]) := by kernel_rfl
theorem slot31 : X.slot 31 = fun t => posT [] t 0 := rfl
theorem nslot31 : X.nslots 31 = 0 := rfl
theorem pin31 : X.pin 31 = none := rfl
theorem plan31_6 : X.plan 31 6 = [(0, [], []), (1, [], []), (2, [], []), (3, [], []), (4, [], []), (5, [], []), (6, [], []), (7, [], []), (8, [], []), (9, [], [])] := by kernel_rfl
theorem plan31_11 : X.plan 31 11 = [(0, [], []), (1, [], []), (2, [], []), (3, [], []), (4, [], []), (5, [], []), (6, [], []), (7, [], []), (8, [], []), (9, [], [])] := by kernel_rfl
noncomputable def c32 : Code := (Try.f32.body).getD .skip
theorem body32 : X.body 32 = some (c32, 152, [.tmp 6, .tmp 7]) := by kernel_rfl
theorem slot32 : X.slot 32 = fun t => posT [11, 15, 66, 73, 125, 145] t 0 := rfl
theorem nslot32 : X.nslots 32 = 6 := rfl
theorem pin32 : X.pin 32 = none := rfl
theorem plan32_7 : X.plan 32 7 = [(0, [], []), (1, [0], []), (2, [0], []), (3, [], []), (4, [], []), (5, [], []), (6, [], []), (7, [], [])] := by kernel_rfl
theorem plan32_9 : X.plan 32 9 = [(0, [], []), (1, [], []), (2, [], []), (3, [], []), (4, [0], []), (5, [0], []), (6, [], []), (7, [], []), (8, [], []), (9, [], []), (10, [], []), (11, [], [])] := by kernel_rfl
theorem plan32_10 : X.plan 32 10 = [(0, [], []), (1, [], []), (2, [], []), (3, [], []), (4, [], []), (5, [0], []), (6, [0], []), (7, [0], []), (8, [0], []), (9, [], []), (10, [], []), (11, [2], []), (12, [], []), (13, [], []), (14, [], [])] := by kernel_rfl
theorem plan32_20 : X.plan 32 20 = [(0, [], []), (1, [], []), (2, [], []), (3, [], []), (4, [1], []), (5, [], []), (6, [], []), (7, [], []), (8, [], []), (9, [], []), (10, [], [])] := by kernel_rfl
theorem plan32_22 : X.plan 32 22 = [(0, [], []), (1, [], []), (2, [], []), (3, [], []), (4, [], []), (5, [], []), (6, [], []), (7, [], []), (8, [], []), (9, [], []), (10, [], []), (11, [], []), (12, [], []), (13, [], []), (14, [], []), (15, [4], [(3, [])]), (16, [], []), (17, [], []), (18, [], [])] := by kernel_rfl
theorem plan32_24 : X.plan 32 24 = [(0, [], []), (1, [], []), (2, [], []), (3, [], []), (4, [], []), (5, [], []), (6, [1], []), (7, [], []), (8, [5], []), (9, [], []), (10, [], [])] := by kernel_rfl
noncomputable def c33 : Code := (Try.f33.body).getD .skip
theorem body33 : X.body 33 = some (c33, 14, [.tmp 3]) := by kernel_rfl
theorem slot33 : X.slot 33 = fun t => posT [2] t 0 := rfl
theorem nslot33 : X.nslots 33 = 1 := rfl
theorem pin33 : X.pin 33 = none := rfl
noncomputable def c34 : Code := (Try.f34.body).getD .skip
theorem body34 : X.body 34 = some (c34, 8, [.tmp 3]) := by kernel_rfl
theorem slot34 : X.slot 34 = fun t => posT [2] t 0 := rfl
theorem nslot34 : X.nslots 34 = 1 := rfl
theorem pin34 : X.pin 34 = none := rfl
noncomputable def c35 : Code := (Try.f35.body).getD .skip
theorem body35 : X.body 35 = some (c35, 193, []) := by kernel_rfl
theorem slot35 : X.slot 35 = fun t => posT [33, 72, 115] t 0 := rfl
theorem nslot35 : X.nslots 35 = 3 := rfl
theorem pin35 : X.pin 35 = none := rfl
theorem plan35_10 : X.plan 35 10 = [(0, [], []), (1, [], []), (2, [], []), (3, [], []), (4, [], []), (5, [], []), (6, [], []), (7, [], []), (8, [], []), (9, [], [])] := by kernel_rfl
theorem plan35_15 : X.plan 35 15 = [(0, [], []), (1, [], []), (2, [], []), (3, [], []), (4, [], []), (5, [], []), (6, [], []), (7, [], []), (8, [], []), (9, [], [])] := by kernel_rfl
theorem plan35_16 : X.plan 35 16 = [(0, [], []), (1, [], []), (2, [], []), (3, [], []), (4, [], []), (5, [], []), (6, [], []), (7, [], []), (8, [], []), (9, [], []), (10, [], [])] := by kernel_rfl
theorem plan35_22 : X.plan 35 22 = [(0, [], []), (1, [], []), (2, [], []), (3, [], []), (4, [], []), (5, [], []), (6, [], []), (7, [], []), (8, [], []), (9, [], []), (10, [], []), (11, [], []), (12, [], [])] := by kernel_rfl
theorem plan35_23 : X.plan 35 23 = [(0, [], []), (1, [], []), (2, [], []), (3, [], []), (4, [], []), (5, [], []), (6, [], []), (7, [], []), (8, [], [])] := by kernel_rfl
theorem plan35_25 : X.plan 35 25 = [(0, [], []), (1, [], []), (2, [], []), (3, [], []), (4, [], []), (5, [], []), (6, [], []), (7, [], []), (8, [], []), (9, [], []), (10, [], [])] := by kernel_rfl
theorem plan35_28 : X.plan 35 28 = [(0, [], []), (1, [], []), (2, [], []), (3, [], []), (4, [], []), (5, [], []), (6, [], []), (7, [], []), (8, [], []), (9, [], []), (10, [], []), (11, [], []), (12, [], [])] := by kernel_rfl
noncomputable def c36 : Code := (Try.f36.body).getD .skip
theorem body36 : X.body 36 = some (c36, 62, [.tmp 4]) := by kernel_rfl
theorem slot36 : X.slot 36 = fun t => posT [57] t 0 := rfl
theorem nslot36 : X.nslots 36 = 1 := rfl
theorem pin36 : X.pin 36 = none := rfl
noncomputable def c37 : Code := (Try.f37.body).getD .skip
theorem body37 : X.body 37 = some (c37, 187, [.tmp 4]) := by kernel_rfl
theorem slot37 : X.slot 37 = fun t => posT [65, 76, 154, 159, 183] t 0 := rfl
theorem nslot37 : X.nslots 37 = 5 := rfl
theorem pin37 : X.pin 37 = none := rfl
theorem plan37_23 : X.plan 37 23 = [(0, [], []), (1, [], []), (2, [], []), (3, [], []), (4, [], []), (5, [], []), (6, [], []), (7, [], []), (8, [], []), (9, [], []), (10, [], []), (11, [], []), (12, [], []), (13, [], []), (14, [], []), (15, [], []), (16, [], []), (17, [], []), (18, [], []), (19, [], []), (20, [], []), (21, [], []), (22, [], []), (23, [], []), (24, [], []), (25, [], []), (26, [], []), (27, [], []), (28, [], []), (29, [], []), (30, [], []), (31, [], []), (32, [], []), (33, [], []), (34, [], [])] := by kernel_rfl
noncomputable def c38 : Code := (Try.f38.body).getD .skip
theorem body38 : X.body 38 = some (c38, 3, [.tmp 2]) := by kernel_rfl
theorem slot38 : X.slot 38 = fun t => posT [1] t 0 := rfl
theorem nslot38 : X.nslots 38 = 1 := rfl
theorem pin38 : X.pin 38 = none := rfl
noncomputable def c39 : Code := (Try.f39.body).getD .skip
theorem body39 : X.body 39 = some (c39, 3, [.tmp 2]) := by kernel_rfl
theorem slot39 : X.slot 39 = fun t => posT [1] t 0 := rfl
theorem nslot39 : X.nslots 39 = 1 := rfl
theorem pin39 : X.pin 39 = none := rfl
noncomputable def c40 : Code := (Try.f40.body).getD .skip
theorem body40 : X.body 40 = some (c40, 38, [.tmp 4]) := by kernel_rfl
theorem slot40 : X.slot 40 = fun t => posT [3, 8, 24, 28, 35] t 0 := rfl
theorem nslot40 : X.nslots 40 = 5 := rfl
theorem pin40 : X.pin 40 = none := rfl
noncomputable def c41 : Code := (Try.f41.body).getD .skip
theorem body41 : X.body 41 = some (c41, 20, [.tmp 4]) := by kernel_rfl
theorem slot41 : X.slot 41 = fun t => posT [2, 3] t 0 := rfl
theorem nslot41 : X.nslots 41 = 2 := rfl
theorem pin41 : X.pin 41 = none := rfl
noncomputable def c42 : Code := (Try.f42.body).getD .skip
theorem body42 : X.body 42 = some (c42, 27, [.tmp 4]) := by kernel_rfl
theorem slot42 : X.slot 42 = fun t => posT [] t 0 := rfl
theorem nslot42 : X.nslots 42 = 0 := rfl
theorem pin42 : X.pin 42 = none := rfl
noncomputable def c43 : Code := (Try.f43.body).getD .skip
theorem body43 : X.body 43 = some (c43, 148, []) := by kernel_rfl
theorem slot43 : X.slot 43 = fun t => posT [] t 0 := rfl
theorem nslot43 : X.nslots 43 = 0 := rfl
theorem pin43 : X.pin 43 = none := rfl
theorem plan43_17 : X.plan 43 17 = [(0, [], []), (1, [], []), (2, [], []), (3, [], []), (4, [], []), (5, [], []), (6, [], []), (7, [], []), (8, [], []), (9, [], []), (10, [], []), (11, [], []), (12, [], []), (13, [], []), (14, [], []), (15, [], []), (16, [], [])] := by kernel_rfl
noncomputable def c44 : Code := (Try.f44.body).getD .skip
theorem body44 : X.body 44 = some (c44, 8, [.tmp 2]) := by kernel_rfl
theorem slot44 : X.slot 44 = fun t => posT [] t 0 := rfl
theorem nslot44 : X.nslots 44 = 0 := rfl
theorem pin44 : X.pin 44 = none := rfl
noncomputable def c45 : Code := (Try.f45.body).getD .skip
theorem body45 : X.body 45 = some (c45, 53, [.tmp 6]) := by kernel_rfl
theorem slot45 : X.slot 45 = fun t => posT [46] t 0 := rfl
theorem nslot45 : X.nslots 45 = 1 := rfl
theorem pin45 : X.pin 45 = none := rfl
theorem plan45_6 : X.plan 45 6 = [(0, [], []), (1, [], []), (2, [], []), (3, [], []), (4, [], []), (5, [], []), (6, [], []), (7, [], []), (8, [], []), (9, [], []), (10, [], []), (11, [], []), (12, [], [])] := by kernel_rfl
theorem plan45_9 : X.plan 45 9 = [(0, [], []), (1, [], []), (2, [], []), (3, [], []), (4, [], []), (5, [], []), (6, [], []), (7, [0], [(0, [])]), (8, [], []), (9, [], []), (10, [], [])] := by kernel_rfl
noncomputable def c46 : Code := (Try.f46.body).getD .skip
theorem body46 : X.body 46 = some (c46, 32, [.tmp 4]) := by kernel_rfl
theorem slot46 : X.slot 46 = fun t => posT [] t 0 := rfl
theorem nslot46 : X.nslots 46 = 0 := rfl
theorem pin46 : X.pin 46 = none := rfl
theorem plan46_1 : X.plan 46 1 = [(0, [], []), (1, [], []), (2, [], []), (3, [], []), (4, [], []), (5, [], []), (6, [], []), (7, [], []), (8, [], [])] := by kernel_rfl
theorem plan46_2 : X.plan 46 2 = [(0, [], []), (1, [], []), (2, [], []), (3, [], []), (4, [], []), (5, [], []), (6, [], []), (7, [], []), (8, [], []), (9, [], [])] := by kernel_rfl
theorem plan46_3 : X.plan 46 3 = [(0, [], []), (1, [], []), (2, [], []), (3, [], []), (4, [], []), (5, [], []), (6, [], []), (7, [], []), (8, [], []), (9, [], [])] := by kernel_rfl
noncomputable def c47 : Code := (Try.f47.body).getD .skip
theorem body47 : X.body 47 = some (c47, 33, [.tmp 6]) := by kernel_rfl
theorem slot47 : X.slot 47 = fun t => posT [] t 0 := rfl
theorem nslot47 : X.nslots 47 = 0 := rfl
theorem pin47 : X.pin 47 = none := rfl
theorem plan47_5 : X.plan 47 5 = [(0, [], []), (1, [], []), (2, [], []), (3, [], []), (4, [], []), (5, [], []), (6, [], []), (7, [], [])] := by kernel_rfl
noncomputable def c48 : Code := (Try.f48.body).getD .skip
theorem body48 : X.body 48 = some (c48, 53, []) := by kernel_rfl
theorem slot48 : X.slot 48 = fun t => posT [] t 0 := rfl
theorem nslot48 : X.nslots 48 = 0 := rfl
theorem pin48 : X.pin 48 = none := rfl
theorem plan48_4 : X.plan 48 4 = [(0, [], []), (1, [], []), (2, [], []), (3, [], []), (4, [], []), (5, [], []), (6, [], []), (7, [], []), (8, [], []), (9, [], []), (10, [], []), (11, [], []), (12, [], []), (13, [], []), (14, [], []), (15, [], []), (16, [], [])] := by kernel_rfl
theorem plan48_6 : X.plan 48 6 = [(0, [], []), (1, [], []), (2, [], []), (3, [], []), (4, [], []), (5, [], []), (6, [], []), (7, [], []), (8, [], []), (9, [], []), (10, [], []), (11, [], []), (12, [], []), (13, [], []), (14, [], []), (15, [], []), (16, [], []), (17, [], [])] := by kernel_rfl
noncomputable def c49 : Code := (Try.f49.body).getD .skip
theorem body49 : X.body 49 = some (c49, 60, []) := by kernel_rfl
theorem slot49 : X.slot 49 = fun t => posT [] t 0 := rfl
theorem nslot49 : X.nslots 49 = 0 := rfl
theorem pin49 : X.pin 49 = none := rfl
theorem plan49_10 : X.plan 49 10 = [(0, [], []), (1, [], []), (2, [], []), (3, [], []), (4, [], []), (5, [], []), (6, [], []), (7, [], []), (8, [], []), (9, [], []), (10, [], []), (11, [], []), (12, [], []), (13, [], []), (14, [], []), (15, [], []), (16, [], []), (17, [], []), (18, [], []), (19, [], [])] := by kernel_rfl
noncomputable def c50 : Code := (Try.f50.body).getD .skip
theorem body50 : X.body 50 = some (c50, 67, []) := by kernel_rfl
theorem slot50 : X.slot 50 = fun t => posT [] t 0 := rfl
theorem nslot50 : X.nslots 50 = 0 := rfl
theorem pin50 : X.pin 50 = none := rfl
theorem plan50_10 : X.plan 50 10 = [(0, [], []), (1, [], []), (2, [], []), (3, [], []), (4, [], []), (5, [], []), (6, [], []), (7, [], []), (8, [], []), (9, [], []), (10, [], []), (11, [], []), (12, [], []), (13, [], []), (14, [], []), (15, [], []), (16, [], []), (17, [], []), (18, [], []), (19, [], [])] := by kernel_rfl
noncomputable def c51 : Code := (Try.f51.body).getD .skip
theorem body51 : X.body 51 = some (c51, 63, [.tmp 8, .tmp 9]) := by kernel_rfl
theorem slot51 : X.slot 51 = fun t => posT [] t 0 := rfl
theorem nslot51 : X.nslots 51 = 0 := rfl
theorem pin51 : X.pin 51 = none := rfl
noncomputable def c52 : Code := (Try.f52.body).getD .skip
theorem body52 : X.body 52 = some (c52, 34, []) := by kernel_rfl
theorem slot52 : X.slot 52 = fun t => posT [] t 0 := rfl
theorem nslot52 : X.nslots 52 = 0 := rfl
theorem pin52 : X.pin 52 = none := rfl
theorem plan52_3 : X.plan 52 3 = [(0, [], []), (1, [], []), (2, [], []), (3, [], []), (4, [], []), (5, [], []), (6, [], []), (7, [], []), (8, [], []), (9, [], []), (10, [], []), (11, [], []), (12, [], []), (13, [], []), (14, [], []), (15, [], [])] := by kernel_rfl
noncomputable def c53 : Code := (Try.f53.body).getD .skip
theorem body53 : X.body 53 = some (c53, 141, [.tmp 8]) := by kernel_rfl
theorem slot53 : X.slot 53 = fun t => posT [] t 0 := rfl
theorem nslot53 : X.nslots 53 = 0 := rfl
theorem pin53 : X.pin 53 = none := rfl
theorem plan53_5 : X.plan 53 5 = [(0, [], []), (1, [], []), (2, [], []), (3, [], []), (4, [], []), (5, [], []), (6, [], []), (7, [], []), (8, [], []), (9, [], []), (10, [], []), (11, [], []), (12, [], []), (13, [], []), (14, [], []), (15, [], []), (16, [], []), (17, [], [])] := by kernel_rfl
theorem plan53_11 : X.plan 53 11 = [(0, [], []), (1, [], []), (2, [], []), (3, [], []), (4, [], []), (5, [], []), (6, [], []), (7, [], []), (8, [], []), (9, [], []), (10, [], []), (11, [], []), (12, [], []), (13, [], []), (14, [], []), (15, [], []), (16, [], []), (17, [], [])] := by kernel_rfl
theorem plan53_16 : X.plan 53 16 = [(0, [], []), (1, [], []), (2, [], []), (3, [], []), (4, [], []), (5, [], []), (6, [], []), (7, [], []), (8, [], []), (9, [], []), (10, [], []), (11, [], []), (12, [], [])] := by kernel_rfl
theorem plan53_17 : X.plan 53 17 = [(0, [], []), (1, [], []), (2, [], []), (3, [], []), (4, [], []), (5, [], []), (6, [], []), (7, [], []), (8, [], []), (9, [], []), (10, [], []), (11, [], []), (12, [], []), (13, [], []), (14, [], []), (15, [], []), (16, [], []), (17, [], [])] := by kernel_rfl
theorem plan53_22 : X.plan 53 22 = [(0, [], []), (1, [], []), (2, [], []), (3, [], []), (4, [], []), (5, [], []), (6, [], []), (7, [], []), (8, [], []), (9, [], []), (10, [], []), (11, [], []), (12, [], [])] := by kernel_rfl
theorem plan53_23 : X.plan 53 23 = [(0, [], []), (1, [], []), (2, [], []), (3, [], []), (4, [], []), (5, [], []), (6, [], []), (7, [], []), (8, [], []), (9, [], []), (10, [], []), (11, [], []), (12, [], []), (13, [], []), (14, [], []), (15, [], []), (16, [], []), (17, [], [])] := by kernel_rfl
noncomputable def c54 : Code := (Try.f54.body).getD .skip
theorem body54 : X.body 54 = some (c54, 90, [.tmp 10]) := by kernel_rfl
theorem slot54 : X.slot 54 = fun t => posT [] t 0 := rfl
theorem nslot54 : X.nslots 54 = 0 := rfl
theorem pin54 : X.pin 54 = none := rfl
theorem plan54_1 : X.plan 54 1 = [(0, [], []), (1, [], []), (2, [], []), (3, [], []), (4, [], []), (5, [], []), (6, [], []), (7, [], []), (8, [], []), (9, [], []), (10, [], []), (11, [], []), (12, [], []), (13, [], []), (14, [], []), (15, [], [])] := by kernel_rfl
theorem plan54_3 : X.plan 54 3 = [(0, [], []), (1, [], []), (2, [], []), (3, [], []), (4, [], []), (5, [], []), (6, [], []), (7, [], []), (8, [], []), (9, [], []), (10, [], []), (11, [], []), (12, [], []), (13, [], []), (14, [], []), (15, [], []), (16, [], [])] := by kernel_rfl
theorem plan54_5 : X.plan 54 5 = [(0, [], []), (1, [], []), (2, [], []), (3, [], []), (4, [], []), (5, [], []), (6, [], []), (7, [], []), (8, [], []), (9, [], []), (10, [], []), (11, [], []), (12, [], []), (13, [], []), (14, [], []), (15, [], [])] := by kernel_rfl
theorem plan54_8 : X.plan 54 8 = [(0, [], []), (1, [], []), (2, [], []), (3, [], []), (4, [], []), (5, [], []), (6, [], []), (7, [], []), (8, [], []), (9, [], []), (10, [], []), (11, [], []), (12, [], []), (13, [], []), (14, [], []), (15, [], [])] := by kernel_rfl
noncomputable def c55 : Code := (Try.f55.body).getD .skip
theorem body55 : X.body 55 = some (c55, 178, [.tmp 10, .tmp 11]) := by kernel_rfl
theorem slot55 : X.slot 55 = fun t => posT [] t 0 := rfl
theorem nslot55 : X.nslots 55 = 0 := rfl
theorem pin55 : X.pin 55 = none := rfl
theorem plan55_1 : X.plan 55 1 = [(0, [], []), (1, [], []), (2, [], []), (3, [], []), (4, [], []), (5, [], []), (6, [], []), (7, [], []), (8, [], []), (9, [], []), (10, [], []), (11, [], []), (12, [], []), (13, [], []), (14, [], []), (15, [], [])] := by kernel_rfl
theorem plan55_3 : X.plan 55 3 = [(0, [], []), (1, [], []), (2, [], []), (3, [], []), (4, [], []), (5, [], []), (6, [], []), (7, [], []), (8, [], []), (9, [], []), (10, [], []), (11, [], []), (12, [], []), (13, [], []), (14, [], []), (15, [], [])] := by kernel_rfl
theorem plan55_5 : X.plan 55 5 = [(0, [], []), (1, [], []), (2, [], []), (3, [], []), (4, [], []), (5, [], []), (6, [], []), (7, [], []), (8, [], []), (9, [], []), (10, [], []), (11, [], []), (12, [], []), (13, [], []), (14, [], []), (15, [], []), (16, [], [])] := by kernel_rfl
theorem plan55_8 : X.plan 55 8 = [(0, [], []), (1, [], []), (2, [], []), (3, [], []), (4, [], []), (5, [], []), (6, [], []), (7, [], []), (8, [], []), (9, [], []), (10, [], []), (11, [], []), (12, [], []), (13, [], []), (14, [], []), (15, [], [])] := by kernel_rfl
theorem plan55_10 : X.plan 55 10 = [(0, [], []), (1, [], []), (2, [], []), (3, [], []), (4, [], []), (5, [], []), (6, [], []), (7, [], []), (8, [], []), (9, [], []), (10, [], []), (11, [], []), (12, [], []), (13, [], []), (14, [], []), (15, [], [])] := by kernel_rfl
theorem plan55_13 : X.plan 55 13 = [(0, [], []), (1, [], []), (2, [], []), (3, [], []), (4, [], []), (5, [], []), (6, [], []), (7, [], []), (8, [], []), (9, [], []), (10, [], []), (11, [], []), (12, [], []), (13, [], []), (14, [], []), (15, [], [])] := by kernel_rfl
theorem plan55_15 : X.plan 55 15 = [(0, [], []), (1, [], []), (2, [], []), (3, [], []), (4, [], []), (5, [], []), (6, [], []), (7, [], []), (8, [], []), (9, [], []), (10, [], []), (11, [], []), (12, [], []), (13, [], []), (14, [], []), (15, [], []), (16, [], [])] := by kernel_rfl
theorem plan55_18 : X.plan 55 18 = [(0, [], []), (1, [], []), (2, [], []), (3, [], []), (4, [], []), (5, [], []), (6, [], []), (7, [], []), (8, [], []), (9, [], []), (10, [], []), (11, [], []), (12, [], []), (13, [], []), (14, [], []), (15, [], [])] := by kernel_rfl
theorem plan55_21 : X.plan 55 21 = [(0, [], []), (1, [], []), (2, [], []), (3, [], []), (4, [], []), (5, [], []), (6, [], []), (7, [], []), (8, [], []), (9, [], []), (10, [], []), (11, [], []), (12, [], []), (13, [], []), (14, [], []), (15, [], [])] := by kernel_rfl
noncomputable def c56 : Code := (Try.f56.body).getD .skip
theorem body56 : X.body 56 = some (c56, 19, [.tmp 2]) := by kernel_rfl
theorem slot56 : X.slot 56 = fun t => posT [] t 0 := rfl
theorem nslot56 : X.nslots 56 = 0 := rfl
theorem pin56 : X.pin 56 = none := rfl
noncomputable def c57 : Code := (Try.f57.body).getD .skip
theorem body57 : X.body 57 = some (c57, 25, [.tmp 2]) := by kernel_rfl
theorem slot57 : X.slot 57 = fun t => posT [] t 0 := rfl
theorem nslot57 : X.nslots 57 = 0 := rfl
theorem pin57 : X.pin 57 = none := rfl
noncomputable def c58 : Code := (Try.f58.body).getD .skip
theorem body58 : X.body 58 = some (c58, 19, [.tmp 4]) := by kernel_rfl
theorem slot58 : X.slot 58 = fun t => posT [] t 0 := rfl
theorem nslot58 : X.nslots 58 = 0 := rfl
theorem pin58 : X.pin 58 = none := rfl
noncomputable def c59 : Code := (Try.f59.body).getD .skip
theorem body59 : X.body 59 = some (c59, 8, [.tmp 2]) := by kernel_rfl
theorem slot59 : X.slot 59 = fun t => posT [] t 0 := rfl
theorem nslot59 : X.nslots 59 = 0 := rfl
theorem pin59 : X.pin 59 = none := rfl
noncomputable def c60 : Code := (Try.f60.body).getD .skip
theorem body60 : X.body 60 = some (c60, 14, []) := by kernel_rfl
theorem slot60 : X.slot 60 = fun t => posT [] t 0 := rfl
theorem nslot60 : X.nslots 60 = 0 := rfl
theorem pin60 : X.pin 60 = none := rfl
noncomputable def c61 : Code := (Try.f61.body).getD .skip
theorem body61 : X.body 61 = some (c61, 33, [.tmp 5]) := by kernel_rfl
theorem slot61 : X.slot 61 = fun t => posT [] t 0 := rfl
theorem nslot61 : X.nslots 61 = 0 := rfl
theorem pin61 : X.pin 61 = none := rfl
theorem plan61_1 : X.plan 61 1 = [(0, [], []), (1, [], []), (2, [], []), (3, [], []), (4, [], []), (5, [], []), (6, [], []), (7, [], []), (8, [], []), (9, [], []), (10, [], []), (11, [], []), (13, [], []), (14, [], []), (15, [], []), (16, [], []), (17, [], []), (18, [], []), (19, [], []), (20, [], []), (21, [], []), (22, [], []), (23, [], []), (24, [], []), (12, [], [(13, []), (16, []), (19, []), (22, [])]), (25, [], []), (26, [], []), (27, [], [])] := by kernel_rfl
noncomputable def c62 : Code := (Try.f62.body).getD .skip
theorem body62 : X.body 62 = some (c62, 82, []) := by kernel_rfl
theorem slot62 : X.slot 62 = fun t => posT [] t 0 := rfl
theorem nslot62 : X.nslots 62 = 0 := rfl
theorem pin62 : X.pin 62 = none := rfl
theorem plan62_3 : X.plan 62 3 = [(0, [], []), (1, [], []), (2, [], []), (3, [], []), (4, [], []), (5, [], []), (6, [], []), (7, [], []), (8, [], []), (9, [], []), (10, [], []), (11, [], []), (12, [], []), (13, [], []), (14, [], []), (15, [], []), (16, [], []), (17, [], []), (18, [], []), (19, [], []), (20, [], []), (21, [], [])] := by kernel_rfl
theorem plan62_5 : X.plan 62 5 = [(0, [], []), (1, [], []), (2, [], []), (3, [], []), (4, [], []), (5, [], []), (6, [], []), (7, [], []), (8, [], []), (9, [], []), (10, [], []), (11, [], []), (12, [], []), (13, [], []), (14, [], []), (15, [], [])] := by kernel_rfl
theorem plan62_6 : X.plan 62 6 = [(0, [], []), (1, [], []), (2, [], []), (3, [], []), (4, [], []), (5, [], []), (6, [], []), (7, [], []), (8, [], []), (9, [], []), (10, [], []), (11, [], []), (12, [], []), (13, [], []), (14, [], []), (15, [], []), (16, [], []), (17, [], []), (18, [], []), (19, [], []), (20, [], []), (21, [], []), (22, [], []), (23, [], [])] := by kernel_rfl
noncomputable def c63 : Code := (Try.f63.body).getD .skip
theorem body63 : X.body 63 = some (c63, 7, [.tmp 2]) := by kernel_rfl
theorem slot63 : X.slot 63 = fun t => posT [] t 0 := rfl
theorem nslot63 : X.nslots 63 = 0 := rfl
theorem pin63 : X.pin 63 = none := rfl
noncomputable def c64 : Code := (Try.f64.body).getD .skip
theorem body64 : X.body 64 = some (c64, 33, [.tmp 2]) := by kernel_rfl
theorem slot64 : X.slot 64 = fun t => posT [] t 0 := rfl
theorem nslot64 : X.nslots 64 = 0 := rfl
theorem pin64 : X.pin 64 = none := rfl
theorem plan64_1 : X.plan 64 1 = [(0, [], []), (1, [], []), (2, [], []), (3, [], []), (4, [], []), (5, [], []), (6, [], []), (7, [], []), (8, [], []), (9, [], [])] := by kernel_rfl
theorem plan64_2 : X.plan 64 2 = [(0, [], []), (1, [], []), (2, [], []), (3, [], []), (4, [], []), (5, [], []), (6, [], []), (7, [], []), (8, [], []), (9, [], [])] := by kernel_rfl
theorem plan64_3 : X.plan 64 3 = [(0, [], []), (1, [], []), (2, [], []), (3, [], []), (4, [], []), (5, [], []), (6, [], []), (7, [], []), (8, [], []), (9, [], [])] := by kernel_rfl
noncomputable def c65 : Code := (Try.f65.body).getD .skip
theorem body65 : X.body 65 = some (c65, 18, [.tmp 8]) := by kernel_rfl
theorem slot65 : X.slot 65 = fun t => posT [] t 0 := rfl
theorem nslot65 : X.nslots 65 = 0 := rfl
theorem pin65 : X.pin 65 = none := rfl
noncomputable def c66 : Code := (Try.f66.body).getD .skip
theorem body66 : X.body 66 = some (c66, 41, [.tmp 12]) := by kernel_rfl
theorem slot66 : X.slot 66 = fun t => posT [] t 0 := rfl
theorem nslot66 : X.nslots 66 = 0 := rfl
theorem pin66 : X.pin 66 = none := rfl
noncomputable def c67 : Code := (Try.f67.body).getD .skip
theorem body67 : X.body 67 = some (c67, 148, []) := by kernel_rfl
theorem slot67 : X.slot 67 = fun t => posT [] t 0 := rfl
theorem nslot67 : X.nslots 67 = 0 := rfl
theorem pin67 : X.pin 67 = none := rfl
theorem plan67_17 : X.plan 67 17 = [(0, [], []), (1, [], []), (2, [], []), (3, [], []), (4, [], []), (5, [], []), (6, [], []), (7, [], []), (8, [], []), (9, [], []), (10, [], []), (11, [], []), (12, [], []), (13, [], []), (14, [], []), (15, [], []), (16, [], [])] := by kernel_rfl
noncomputable def c68 : Code := (Try.f68.body).getD .skip
theorem body68 : X.body 68 = some (c68, 32, [.tmp 10, .tmp 11]) := by kernel_rfl
theorem slot68 : X.slot 68 = fun t => posT [] t 0 := rfl
theorem nslot68 : X.nslots 68 = 0 := rfl
theorem pin68 : X.pin 68 = none := rfl
theorem plan68_1 : X.plan 68 1 = [(0, [], []), (1, [], []), (2, [], []), (3, [], []), (4, [], []), (5, [], []), (6, [], []), (7, [], []), (8, [], []), (9, [], []), (10, [], [])] := by kernel_rfl
noncomputable def c69 : Code := (Try.f69.body).getD .skip
theorem body69 : X.body 69 = some (c69, 53, []) := by kernel_rfl
theorem slot69 : X.slot 69 = fun t => posT [] t 0 := rfl
theorem nslot69 : X.nslots 69 = 0 := rfl
theorem pin69 : X.pin 69 = none := rfl
theorem plan69_4 : X.plan 69 4 = [(0, [], []), (1, [], []), (2, [], []), (3, [], []), (4, [], []), (5, [], []), (6, [], []), (7, [], []), (8, [], []), (9, [], []), (10, [], []), (11, [], []), (12, [], []), (13, [], []), (14, [], []), (15, [], []), (16, [], [])] := by kernel_rfl
theorem plan69_6 : X.plan 69 6 = [(0, [], []), (1, [], []), (2, [], []), (3, [], []), (4, [], []), (5, [], []), (6, [], []), (7, [], []), (8, [], []), (9, [], []), (10, [], []), (11, [], []), (12, [], []), (13, [], []), (14, [], []), (15, [], []), (16, [], []), (17, [], [])] := by kernel_rfl
noncomputable def c70 : Code := (Try.f70.body).getD .skip
theorem body70 : X.body 70 = some (c70, 60, []) := by kernel_rfl
theorem slot70 : X.slot 70 = fun t => posT [] t 0 := rfl
theorem nslot70 : X.nslots 70 = 0 := rfl
theorem pin70 : X.pin 70 = none := rfl
theorem plan70_10 : X.plan 70 10 = [(0, [], []), (1, [], []), (2, [], []), (3, [], []), (4, [], []), (5, [], []), (6, [], []), (7, [], []), (8, [], []), (9, [], []), (10, [], []), (11, [], []), (12, [], []), (13, [], []), (14, [], []), (15, [], []), (16, [], []), (17, [], []), (18, [], []), (19, [], [])] := by kernel_rfl
noncomputable def c71 : Code := (Try.f71.body).getD .skip
theorem body71 : X.body 71 = some (c71, 67, []) := by kernel_rfl
theorem slot71 : X.slot 71 = fun t => posT [] t 0 := rfl
theorem nslot71 : X.nslots 71 = 0 := rfl
theorem pin71 : X.pin 71 = none := rfl
theorem plan71_10 : X.plan 71 10 = [(0, [], []), (1, [], []), (2, [], []), (3, [], []), (4, [], []), (5, [], []), (6, [], []), (7, [], []), (8, [], []), (9, [], []), (10, [], []), (11, [], []), (12, [], []), (13, [], []), (14, [], []), (15, [], []), (16, [], []), (17, [], []), (18, [], []), (19, [], [])] := by kernel_rfl
noncomputable def c72 : Code := (Try.f72.body).getD .skip
theorem body72 : X.body 72 = some (c72, 63, [.tmp 8, .tmp 9]) := by kernel_rfl
theorem slot72 : X.slot 72 = fun t => posT [] t 0 := rfl
theorem nslot72 : X.nslots 72 = 0 := rfl
theorem pin72 : X.pin 72 = none := rfl
noncomputable def c73 : Code := (Try.f73.body).getD .skip
theorem body73 : X.body 73 = some (c73, 34, []) := by kernel_rfl
theorem slot73 : X.slot 73 = fun t => posT [] t 0 := rfl
theorem nslot73 : X.nslots 73 = 0 := rfl
theorem pin73 : X.pin 73 = none := rfl
theorem plan73_3 : X.plan 73 3 = [(0, [], []), (1, [], []), (2, [], []), (3, [], []), (4, [], []), (5, [], []), (6, [], []), (7, [], []), (8, [], []), (9, [], []), (10, [], []), (11, [], []), (12, [], []), (13, [], []), (14, [], []), (15, [], [])] := by kernel_rfl
noncomputable def c74 : Code := (Try.f74.body).getD .skip
theorem body74 : X.body 74 = some (c74, 141, [.tmp 8]) := by kernel_rfl
theorem slot74 : X.slot 74 = fun t => posT [] t 0 := rfl
theorem nslot74 : X.nslots 74 = 0 := rfl
theorem pin74 : X.pin 74 = none := rfl
theorem plan74_5 : X.plan 74 5 = [(0, [], []), (1, [], []), (2, [], []), (3, [], []), (4, [], []), (5, [], []), (6, [], []), (7, [], []), (8, [], []), (9, [], []), (10, [], []), (11, [], []), (12, [], []), (13, [], []), (14, [], []), (15, [], []), (16, [], []), (17, [], [])] := by kernel_rfl
theorem plan74_11 : X.plan 74 11 = [(0, [], []), (1, [], []), (2, [], []), (3, [], []), (4, [], []), (5, [], []), (6, [], []), (7, [], []), (8, [], []), (9, [], []), (10, [], []), (11, [], []), (12, [], []), (13, [], []), (14, [], []), (15, [], []), (16, [], []), (17, [], [])] := by kernel_rfl
theorem plan74_16 : X.plan 74 16 = [(0, [], []), (1, [], []), (2, [], []), (3, [], []), (4, [], []), (5, [], []), (6, [], []), (7, [], []), (8, [], []), (9, [], []), (10, [], []), (11, [], []), (12, [], [])] := by kernel_rfl
theorem plan74_17 : X.plan 74 17 = [(0, [], []), (1, [], []), (2, [], []), (3, [], []), (4, [], []), (5, [], []), (6, [], []), (7, [], []), (8, [], []), (9, [], []), (10, [], []), (11, [], []), (12, [], []), (13, [], []), (14, [], []), (15, [], []), (16, [], []), (17, [], [])] := by kernel_rfl
theorem plan74_22 : X.plan 74 22 = [(0, [], []), (1, [], []), (2, [], []), (3, [], []), (4, [], []), (5, [], []), (6, [], []), (7, [], []), (8, [], []), (9, [], []), (10, [], []), (11, [], []), (12, [], [])] := by kernel_rfl
theorem plan74_23 : X.plan 74 23 = [(0, [], []), (1, [], []), (2, [], []), (3, [], []), (4, [], []), (5, [], []), (6, [], []), (7, [], []), (8, [], []), (9, [], []), (10, [], []), (11, [], []), (12, [], []), (13, [], []), (14, [], []), (15, [], []), (16, [], []), (17, [], [])] := by kernel_rfl
noncomputable def c75 : Code := (Try.f75.body).getD .skip
theorem body75 : X.body 75 = some (c75, 90, [.tmp 10]) := by kernel_rfl
theorem slot75 : X.slot 75 = fun t => posT [] t 0 := rfl
theorem nslot75 : X.nslots 75 = 0 := rfl
theorem pin75 : X.pin 75 = none := rfl
theorem plan75_1 : X.plan 75 1 = [(0, [], []), (1, [], []), (2, [], []), (3, [], []), (4, [], []), (5, [], []), (6, [], []), (7, [], []), (8, [], []), (9, [], []), (10, [], []), (11, [], []), (12, [], []), (13, [], []), (14, [], []), (15, [], [])] := by kernel_rfl
theorem plan75_3 : X.plan 75 3 = [(0, [], []), (1, [], []), (2, [], []), (3, [], []), (4, [], []), (5, [], []), (6, [], []), (7, [], []), (8, [], []), (9, [], []), (10, [], []), (11, [], []), (12, [], []), (13, [], []), (14, [], []), (15, [], []), (16, [], [])] := by kernel_rfl
theorem plan75_5 : X.plan 75 5 = [(0, [], []), (1, [], []), (2, [], []), (3, [], []), (4, [], []), (5, [], []), (6, [], []), (7, [], []), (8, [], []), (9, [], []), (10, [], []), (11, [], []), (12, [], []), (13, [], []), (14, [], []), (15, [], [])] := by kernel_rfl
theorem plan75_8 : X.plan 75 8 = [(0, [], []), (1, [], []), (2, [], []), (3, [], []), (4, [], []), (5, [], []), (6, [], []), (7, [], []), (8, [], []), (9, [], []), (10, [], []), (11, [], []), (12, [], []), (13, [], []), (14, [], []), (15, [], [])] := by kernel_rfl
noncomputable def c76 : Code := (Try.f76.body).getD .skip
theorem body76 : X.body 76 = some (c76, 178, [.tmp 10, .tmp 11]) := by kernel_rfl
theorem slot76 : X.slot 76 = fun t => posT [] t 0 := rfl
theorem nslot76 : X.nslots 76 = 0 := rfl
theorem pin76 : X.pin 76 = none := rfl
theorem plan76_1 : X.plan 76 1 = [(0, [], []), (1, [], []), (2, [], []), (3, [], []), (4, [], []), (5, [], []), (6, [], []), (7, [], []), (8, [], []), (9, [], []), (10, [], []), (11, [], []), (12, [], []), (13, [], []), (14, [], []), (15, [], [])] := by kernel_rfl
theorem plan76_3 : X.plan 76 3 = [(0, [], []), (1, [], []), (2, [], []), (3, [], []), (4, [], []), (5, [], []), (6, [], []), (7, [], []), (8, [], []), (9, [], []), (10, [], []), (11, [], []), (12, [], []), (13, [], []), (14, [], []), (15, [], [])] := by kernel_rfl
theorem plan76_5 : X.plan 76 5 = [(0, [], []), (1, [], []), (2, [], []), (3, [], []), (4, [], []), (5, [], []), (6, [], []), (7, [], []), (8, [], []), (9, [], []), (10, [], []), (11, [], []), (12, [], []), (13, [], []), (14, [], []), (15, [], []), (16, [], [])] := by kernel_rfl
theorem plan76_8 : X.plan 76 8 = [(0, [], []), (1, [], []), (2, [], []), (3, [], []), (4, [], []), (5, [], []), (6, [], []), (7, [], []), (8, [], []), (9, [], []), (10, [], []), (11, [], []), (12, [], []), (13, [], []), (14, [], []), (15, [], [])] := by kernel_rfl
theorem plan76_10 : X.plan 76 10 = [(0, [], []), (1, [], []), (2, [], []), (3, [], []), (4, [], []), (5, [], []), (6, [], []), (7, [], []), (8, [], []), (9, [], []), (10, [], []), (11, [], []), (12, [], []), (13, [], []), (14, [], []), (15, [], [])] := by kernel_rfl
theorem plan76_13 : X.plan 76 13 = [(0, [], []), (1, [], []), (2, [], []), (3, [], []), (4, [], []), (5, [], []), (6, [], []), (7, [], []), (8, [], []), (9, [], []), (10, [], []), (11, [], []), (12, [], []), (13, [], []), (14, [], []), (15, [], [])] := by kernel_rfl
theorem plan76_15 : X.plan 76 15 = [(0, [], []), (1, [], []), (2, [], []), (3, [], []), (4, [], []), (5, [], []), (6, [], []), (7, [], []), (8, [], []), (9, [], []), (10, [], []), (11, [], []), (12, [], []), (13, [], []), (14, [], []), (15, [], []), (16, [], [])] := by kernel_rfl
theorem plan76_18 : X.plan 76 18 = [(0, [], []), (1, [], []), (2, [], []), (3, [], []), (4, [], []), (5, [], []), (6, [], []), (7, [], []), (8, [], []), (9, [], []), (10, [], []), (11, [], []), (12, [], []), (13, [], []), (14, [], []), (15, [], [])] := by kernel_rfl
theorem plan76_21 : X.plan 76 21 = [(0, [], []), (1, [], []), (2, [], []), (3, [], []), (4, [], []), (5, [], []), (6, [], []), (7, [], []), (8, [], []), (9, [], []), (10, [], []), (11, [], []), (12, [], []), (13, [], []), (14, [], []), (15, [], [])] := by kernel_rfl
noncomputable def c77 : Code := (Try.f77.body).getD .skip
theorem body77 : X.body 77 = some (c77, 82, []) := by kernel_rfl
theorem slot77 : X.slot 77 = fun t => posT [] t 0 := rfl
theorem nslot77 : X.nslots 77 = 0 := rfl
theorem pin77 : X.pin 77 = none := rfl
theorem plan77_3 : X.plan 77 3 = [(0, [], []), (1, [], []), (2, [], []), (3, [], []), (4, [], []), (5, [], []), (6, [], []), (7, [], []), (8, [], []), (9, [], []), (10, [], []), (11, [], []), (12, [], []), (13, [], []), (14, [], []), (15, [], []), (16, [], []), (17, [], []), (18, [], []), (19, [], []), (20, [], []), (21, [], [])] := by kernel_rfl
theorem plan77_5 : X.plan 77 5 = [(0, [], []), (1, [], []), (2, [], []), (3, [], []), (4, [], []), (5, [], []), (6, [], []), (7, [], []), (8, [], []), (9, [], []), (10, [], []), (11, [], []), (12, [], []), (13, [], []), (14, [], []), (15, [], [])] := by kernel_rfl
theorem plan77_6 : X.plan 77 6 = [(0, [], []), (1, [], []), (2, [], []), (3, [], []), (4, [], []), (5, [], []), (6, [], []), (7, [], []), (8, [], []), (9, [], []), (10, [], []), (11, [], []), (12, [], []), (13, [], []), (14, [], []), (15, [], []), (16, [], []), (17, [], []), (18, [], []), (19, [], []), (20, [], []), (21, [], []), (22, [], []), (23, [], [])] := by kernel_rfl
noncomputable def c78 : Code := (Try.f78.body).getD .skip
theorem body78 : X.body 78 = some (c78, 18, [.tmp 8]) := by kernel_rfl
theorem slot78 : X.slot 78 = fun t => posT [] t 0 := rfl
theorem nslot78 : X.nslots 78 = 0 := rfl
theorem pin78 : X.pin 78 = none := rfl
noncomputable def c79 : Code := (Try.f79.body).getD .skip
theorem body79 : X.body 79 = some (c79, 41, [.tmp 12]) := by kernel_rfl
theorem slot79 : X.slot 79 = fun t => posT [] t 0 := rfl
theorem nslot79 : X.nslots 79 = 0 := rfl
theorem pin79 : X.pin 79 = none := rfl
noncomputable def c80 : Code := (Try.f80.body).getD .skip
theorem body80 : X.body 80 = some (c80, 32, [.tmp 10, .tmp 11]) := by kernel_rfl
theorem slot80 : X.slot 80 = fun t => posT [] t 0 := rfl
theorem nslot80 : X.nslots 80 = 0 := rfl
theorem pin80 : X.pin 80 = none := rfl
theorem plan80_1 : X.plan 80 1 = [(0, [], []), (1, [], []), (2, [], []), (3, [], []), (4, [], []), (5, [], []), (6, [], []), (7, [], []), (8, [], []), (9, [], []), (10, [], [])] := by kernel_rfl

end Go.Ev
