/-
The types of this seat's program, as the interpreter knows them. Printed by a program (tools/types.lean).
-/
import Derived.Test.YtgkmfoljhapmiaaChk
import Derived.KernelRfl
set_option linter.unusedSimpArgs false
set_option linter.unusedVariables false
namespace Go.Ev

theorem ty0 : X.ty 0 = ⟨.tup, 1, 0, [], true⟩ := by kernel_rfl
theorem ty1 : X.ty 1 = ⟨.func, 1, 8, [.nilFn], true⟩ := by kernel_rfl
theorem ty2 : X.ty 2 = ⟨(.int .i64), 1, 8, [(.int .i64 0)], true⟩ := by kernel_rfl
theorem ty3 : X.ty 3 = ⟨(.int .i64), 1, 8, [(.int .i64 0)], true⟩ := by kernel_rfl
theorem ty4 : X.ty 4 = ⟨.bool, 1, 1, [(.bool false)], true⟩ := by kernel_rfl
theorem ty5 : X.ty 5 = ⟨(.int .u8), 1, 1, [(.int .u8 0)], true⟩ := by kernel_rfl
theorem ty6 : X.ty 6 = ⟨(.int .u8), 1, 1, [(.int .u8 0)], true⟩ := by kernel_rfl
theorem ty7 : X.ty 7 = ⟨(.struct [(0, 2), (1, 3), (2, 4), (3, 6)]), 4, 24, [(.int .i64 0), (.int .i64 0), (.bool false), (.int .u8 0)], true⟩ := by kernel_rfl
theorem ty8 : X.ty 8 = ⟨(.struct [(0, 2), (1, 3), (2, 4), (3, 6)]), 4, 24, [(.int .i64 0), (.int .i64 0), (.bool false), (.int .u8 0)], true⟩ := by kernel_rfl
theorem ty9 : X.ty 9 = ⟨.str, 1, 16, [(.str ⟨#[]⟩)], true⟩ := by kernel_rfl
theorem ty10 : X.ty 10 = ⟨.str, 1, 16, [(.str ⟨#[]⟩)], true⟩ := by kernel_rfl
theorem ty11 : X.ty 11 = ⟨.str, 1, 16, [(.str ⟨#[]⟩)], true⟩ := by kernel_rfl
theorem ty12 : X.ty 12 = ⟨(.int .u64), 1, 8, [(.int .u64 0)], true⟩ := by kernel_rfl
theorem ty13 : X.ty 13 = ⟨(.struct [(0, 9), (1, 12)]), 2, 24, [(.str ⟨#[]⟩), (.int .u64 0)], false⟩ := by kernel_rfl
theorem ty14 : X.ty 14 = ⟨(.struct [(0, 9), (1, 12)]), 2, 24, [(.str ⟨#[]⟩), (.int .u64 0)], false⟩ := by kernel_rfl
theorem ty15 : X.ty 15 = ⟨(.ptr 125), 1, 8, [.nilp], true⟩ := by kernel_rfl
theorem ty16 : X.ty 16 = ⟨(.ptr 128), 1, 8, [.nilp], true⟩ := by kernel_rfl
theorem ty17 : X.ty 17 = ⟨(.ptr 137), 1, 8, [.nilp], true⟩ := by kernel_rfl
theorem ty18 : X.ty 18 = ⟨(.struct [(0, 17)]), 1, 8, [.nilp], false⟩ := by kernel_rfl
theorem ty19 : X.ty 19 = ⟨(.struct [(0, 17)]), 1, 8, [.nilp], false⟩ := by kernel_rfl
theorem ty20 : X.ty 20 = ⟨.other, 1, 16, [], true⟩ := by kernel_rfl
theorem ty21 : X.ty 21 = ⟨(.int .i32), 1, 4, [(.int .i32 0)], true⟩ := by kernel_rfl
theorem ty22 : X.ty 22 = ⟨(.slice 25), 1, 24, [(.sl .nil 0 0 0)], true⟩ := by kernel_rfl
theorem ty23 : X.ty 23 = ⟨.func, 1, 8, [.nilFn], true⟩ := by kernel_rfl
theorem ty24 : X.ty 24 = ⟨(.struct [(0, 3), (1, 3)]), 2, 16, [(.int .i64 0), (.int .i64 0)], true⟩ := by kernel_rfl
theorem ty25 : X.ty 25 = ⟨(.struct [(0, 3), (1, 3)]), 2, 16, [(.int .i64 0), (.int .i64 0)], true⟩ := by kernel_rfl
theorem ty26 : X.ty 26 = ⟨.func, 1, 8, [.nilFn], true⟩ := by kernel_rfl
theorem ty27 : X.ty 27 = ⟨.func, 1, 8, [.nilFn], true⟩ := by kernel_rfl
theorem ty28 : X.ty 28 = ⟨.func, 1, 8, [.nilFn], true⟩ := by kernel_rfl
theorem ty29 : X.ty 29 = ⟨.func, 1, 8, [.nilFn], true⟩ := by kernel_rfl
theorem ty30 : X.ty 30 = ⟨.func, 1, 8, [.nilFn], true⟩ := by kernel_rfl
theorem ty31 : X.ty 31 = ⟨(.slice 42), 1, 24, [(.sl .nil 0 0 0)], true⟩ := by kernel_rfl
theorem ty32 : X.ty 32 = ⟨.func, 1, 8, [.nilFn], true⟩ := by kernel_rfl
theorem ty33 : X.ty 33 = ⟨.tup, 1, 0, [], true⟩ := by kernel_rfl
theorem ty34 : X.ty 34 = ⟨.func, 1, 8, [.nilFn], true⟩ := by kernel_rfl
theorem ty35 : X.ty 35 = ⟨.func, 1, 8, [.nilFn], true⟩ := by kernel_rfl
theorem ty36 : X.ty 36 = ⟨(.struct [(0, 3), (1, 3)]), 2, 16, [(.int .i64 0), (.int .i64 0)], true⟩ := by kernel_rfl
theorem ty37 : X.ty 37 = ⟨(.struct [(0, 3), (1, 3)]), 2, 16, [(.int .i64 0), (.int .i64 0)], true⟩ := by kernel_rfl
theorem ty38 : X.ty 38 = ⟨(.slice 9), 1, 24, [(.sl .nil 0 0 0)], true⟩ := by kernel_rfl
theorem ty39 : X.ty 39 = ⟨(.struct [(0, 3), (1, 3), (2, 3), (3, 3), (4, 3), (5, 38)]), 6, 64, [(.int .i64 0), (.int .i64 0), (.int .i64 0), (.int .i64 0), (.int .i64 0), (.sl .nil 0 0 0)], true⟩ := by kernel_rfl
theorem ty40 : X.ty 40 = ⟨(.struct [(0, 3), (1, 3), (2, 3), (3, 3), (4, 3), (5, 38)]), 6, 64, [(.int .i64 0), (.int .i64 0), (.int .i64 0), (.int .i64 0), (.int .i64 0), (.sl .nil 0 0 0)], true⟩ := by kernel_rfl
theorem ty41 : X.ty 41 = ⟨(.struct [(0, 25), (2, 37), (4, 37), (6, 3), (7, 4), (8, 40), (14, 3), (15, 22)]), 16, 160, [(.int .i64 0), (.int .i64 0), (.int .i64 0), (.int .i64 0), (.int .i64 0), (.int .i64 0), (.int .i64 0), (.bool false), (.int .i64 0), (.int .i64 0), (.int .i64 0), (.int .i64 0), (.int .i64 0), (.sl .nil 0 0 0), (.int .i64 0), (.sl .nil 0 0 0)], true⟩ := by kernel_rfl
theorem ty42 : X.ty 42 = ⟨(.struct [(0, 25), (2, 37), (4, 37), (6, 3), (7, 4), (8, 40), (14, 3), (15, 22)]), 16, 160, [(.int .i64 0), (.int .i64 0), (.int .i64 0), (.int .i64 0), (.int .i64 0), (.int .i64 0), (.int .i64 0), (.bool false), (.int .i64 0), (.int .i64 0), (.int .i64 0), (.int .i64 0), (.int .i64 0), (.sl .nil 0 0 0), (.int .i64 0), (.sl .nil 0 0 0)], true⟩ := by kernel_rfl
theorem ty43 : X.ty 43 = ⟨.func, 1, 8, [.nilFn], true⟩ := by kernel_rfl
theorem ty44 : X.ty 44 = ⟨.func, 1, 8, [.nilFn], true⟩ := by kernel_rfl
theorem ty45 : X.ty 45 = ⟨.func, 1, 8, [.nilFn], true⟩ := by kernel_rfl
theorem ty46 : X.ty 46 = ⟨.func, 1, 8, [.nilFn], true⟩ := by kernel_rfl
theorem ty47 : X.ty 47 = ⟨.func, 1, 8, [.nilFn], true⟩ := by kernel_rfl
theorem ty48 : X.ty 48 = ⟨.func, 1, 8, [.nilFn], true⟩ := by kernel_rfl
theorem ty49 : X.ty 49 = ⟨.func, 1, 8, [.nilFn], true⟩ := by kernel_rfl
theorem ty50 : X.ty 50 = ⟨(.slice 22), 1, 24, [(.sl .nil 0 0 0)], true⟩ := by kernel_rfl
theorem ty51 : X.ty 51 = ⟨.func, 1, 8, [.nilFn], true⟩ := by kernel_rfl
theorem ty52 : X.ty 52 = ⟨(.slice 31), 1, 24, [(.sl .nil 0 0 0)], true⟩ := by kernel_rfl
theorem ty53 : X.ty 53 = ⟨.func, 1, 8, [.nilFn], true⟩ := by kernel_rfl
theorem ty54 : X.ty 54 = ⟨(.int .u64), 1, 8, [(.int .u64 0)], true⟩ := by kernel_rfl
theorem ty55 : X.ty 55 = ⟨.func, 1, 8, [.nilFn], true⟩ := by kernel_rfl
theorem ty56 : X.ty 56 = ⟨.func, 1, 8, [.nilFn], true⟩ := by kernel_rfl
theorem ty57 : X.ty 57 = ⟨.func, 1, 8, [.nilFn], true⟩ := by kernel_rfl
theorem ty58 : X.ty 58 = ⟨.func, 1, 8, [.nilFn], true⟩ := by kernel_rfl
theorem ty59 : X.ty 59 = ⟨(.map 25 3), 1, 8, [.nilm], true⟩ := by kernel_rfl
theorem ty60 : X.ty 60 = ⟨(.ptr 69), 1, 8, [.nilp], true⟩ := by kernel_rfl
theorem ty61 : X.ty 61 = ⟨.tup, 1, 0, [], true⟩ := by kernel_rfl
theorem ty62 : X.ty 62 = ⟨.func, 1, 8, [.nilFn], true⟩ := by kernel_rfl
theorem ty63 : X.ty 63 = ⟨.func, 1, 8, [.nilFn], true⟩ := by kernel_rfl
theorem ty64 : X.ty 64 = ⟨.func, 1, 8, [.nilFn], true⟩ := by kernel_rfl
theorem ty65 : X.ty 65 = ⟨(.slice 4), 1, 24, [(.sl .nil 0 0 0)], true⟩ := by kernel_rfl
theorem ty66 : X.ty 66 = ⟨(.slice 79), 1, 24, [(.sl .nil 0 0 0)], true⟩ := by kernel_rfl
theorem ty67 : X.ty 67 = ⟨(.slice 70), 1, 24, [(.sl .nil 0 0 0)], true⟩ := by kernel_rfl
theorem ty68 : X.ty 68 = ⟨(.struct [(0, 66), (1, 59), (2, 67)]), 3, 56, [(.sl .nil 0 0 0), .nilm, (.sl .nil 0 0 0)], true⟩ := by kernel_rfl
theorem ty69 : X.ty 69 = ⟨(.struct [(0, 66), (1, 59), (2, 67)]), 3, 56, [(.sl .nil 0 0 0), .nilm, (.sl .nil 0 0 0)], true⟩ := by kernel_rfl
theorem ty70 : X.ty 70 = ⟨(.slice 3), 1, 24, [(.sl .nil 0 0 0)], true⟩ := by kernel_rfl
theorem ty71 : X.ty 71 = ⟨.func, 1, 8, [.nilFn], true⟩ := by kernel_rfl
theorem ty72 : X.ty 72 = ⟨.func, 1, 8, [.nilFn], true⟩ := by kernel_rfl
theorem ty73 : X.ty 73 = ⟨.func, 1, 8, [.nilFn], true⟩ := by kernel_rfl
theorem ty74 : X.ty 74 = ⟨.func, 1, 8, [.nilFn], true⟩ := by kernel_rfl
theorem ty75 : X.ty 75 = ⟨.func, 1, 8, [.nilFn], true⟩ := by kernel_rfl
theorem ty76 : X.ty 76 = ⟨.func, 1, 8, [.nilFn], true⟩ := by kernel_rfl
theorem ty77 : X.ty 77 = ⟨.func, 1, 8, [.nilFn], true⟩ := by kernel_rfl
theorem ty78 : X.ty 78 = ⟨(.struct [(0, 25), (2, 3), (3, 70), (4, 3), (5, 3), (6, 3)]), 7, 72, [(.int .i64 0), (.int .i64 0), (.int .i64 0), (.sl .nil 0 0 0), (.int .i64 0), (.int .i64 0), (.int .i64 0)], true⟩ := by kernel_rfl
theorem ty79 : X.ty 79 = ⟨(.struct [(0, 25), (2, 3), (3, 70), (4, 3), (5, 3), (6, 3)]), 7, 72, [(.int .i64 0), (.int .i64 0), (.int .i64 0), (.sl .nil 0 0 0), (.int .i64 0), (.int .i64 0), (.int .i64 0)], true⟩ := by kernel_rfl
theorem ty80 : X.ty 80 = ⟨.tup, 1, 0, [], true⟩ := by kernel_rfl
theorem ty81 : X.ty 81 = ⟨(.slice 83), 1, 24, [(.sl .nil 0 0 0)], true⟩ := by kernel_rfl
theorem ty82 : X.ty 82 = ⟨(.struct [(0, 3), (1, 3)]), 2, 16, [(.int .i64 0), (.int .i64 0)], true⟩ := by kernel_rfl
theorem ty83 : X.ty 83 = ⟨(.struct [(0, 3), (1, 3)]), 2, 16, [(.int .i64 0), (.int .i64 0)], true⟩ := by kernel_rfl
theorem ty84 : X.ty 84 = ⟨(.ptr 83), 1, 8, [.nilp], true⟩ := by kernel_rfl
theorem ty85 : X.ty 85 = ⟨(.ptr 79), 1, 8, [.nilp], true⟩ := by kernel_rfl
theorem ty86 : X.ty 86 = ⟨.func, 1, 8, [.nilFn], true⟩ := by kernel_rfl
theorem ty87 : X.ty 87 = ⟨(.map 3 3), 1, 8, [.nilm], true⟩ := by kernel_rfl
theorem ty88 : X.ty 88 = ⟨.func, 1, 8, [.nilFn], true⟩ := by kernel_rfl
theorem ty89 : X.ty 89 = ⟨.func, 1, 8, [.nilFn], true⟩ := by kernel_rfl
theorem ty90 : X.ty 90 = ⟨.func, 1, 8, [.nilFn], true⟩ := by kernel_rfl
theorem ty91 : X.ty 91 = ⟨(.int .i64), 1, 8, [(.int .i64 0)], true⟩ := by kernel_rfl
theorem ty92 : X.ty 92 = ⟨.tup, 1, 0, [], true⟩ := by kernel_rfl
theorem ty93 : X.ty 93 = ⟨.func, 1, 8, [.nilFn], true⟩ := by kernel_rfl
theorem ty94 : X.ty 94 = ⟨.func, 1, 8, [.nilFn], true⟩ := by kernel_rfl
theorem ty95 : X.ty 95 = ⟨.func, 1, 8, [.nilFn], true⟩ := by kernel_rfl
theorem ty96 : X.ty 96 = ⟨.func, 1, 8, [.nilFn], true⟩ := by kernel_rfl
theorem ty97 : X.ty 97 = ⟨.func, 1, 8, [.nilFn], true⟩ := by kernel_rfl
theorem ty98 : X.ty 98 = ⟨(.int .u32), 1, 4, [(.int .u32 0)], true⟩ := by kernel_rfl
theorem ty99 : X.ty 99 = ⟨.func, 1, 8, [.nilFn], true⟩ := by kernel_rfl
theorem ty100 : X.ty 100 = ⟨(.int .u64), 1, 8, [(.int .u64 0)], true⟩ := by kernel_rfl
theorem ty101 : X.ty 101 = ⟨.func, 1, 8, [.nilFn], true⟩ := by kernel_rfl
theorem ty102 : X.ty 102 = ⟨.func, 1, 8, [.nilFn], true⟩ := by kernel_rfl
theorem ty103 : X.ty 103 = ⟨.func, 1, 8, [.nilFn], true⟩ := by kernel_rfl
theorem ty104 : X.ty 104 = ⟨.func, 1, 8, [.nilFn], true⟩ := by kernel_rfl
theorem ty105 : X.ty 105 = ⟨(.int .u64), 1, 8, [(.int .u64 0)], true⟩ := by kernel_rfl
theorem ty106 : X.ty 106 = ⟨.func, 1, 8, [.nilFn], true⟩ := by kernel_rfl
theorem ty107 : X.ty 107 = ⟨.func, 1, 8, [.nilFn], true⟩ := by kernel_rfl
theorem ty108 : X.ty 108 = ⟨.func, 1, 8, [.nilFn], true⟩ := by kernel_rfl
theorem ty109 : X.ty 109 = ⟨(.ptr 3), 1, 8, [.nilp], true⟩ := by kernel_rfl
theorem ty110 : X.ty 110 = ⟨.func, 1, 8, [.nilFn], true⟩ := by kernel_rfl
theorem ty111 : X.ty 111 = ⟨.func, 1, 8, [.nilFn], true⟩ := by kernel_rfl
theorem ty112 : X.ty 112 = ⟨(.ptr 105), 1, 8, [.nilp], true⟩ := by kernel_rfl
theorem ty113 : X.ty 113 = ⟨.tup, 1, 0, [], true⟩ := by kernel_rfl
theorem ty114 : X.ty 114 = ⟨.func, 1, 8, [.nilFn], true⟩ := by kernel_rfl
theorem ty115 : X.ty 115 = ⟨.func, 1, 8, [.nilFn], true⟩ := by kernel_rfl
theorem ty116 : X.ty 116 = ⟨.func, 1, 8, [.nilFn], true⟩ := by kernel_rfl
theorem ty117 : X.ty 117 = ⟨.func, 1, 8, [.nilFn], true⟩ := by kernel_rfl
theorem ty118 : X.ty 118 = ⟨.func, 1, 8, [.nilFn], true⟩ := by kernel_rfl
theorem ty119 : X.ty 119 = ⟨.func, 1, 8, [.nilFn], true⟩ := by kernel_rfl
theorem ty120 : X.ty 120 = ⟨.func, 1, 8, [.nilFn], true⟩ := by kernel_rfl
theorem ty121 : X.ty 121 = ⟨.func, 1, 8, [.nilFn], true⟩ := by kernel_rfl
theorem ty122 : X.ty 122 = ⟨.func, 1, 8, [.nilFn], true⟩ := by kernel_rfl
theorem ty123 : X.ty 123 = ⟨.func, 1, 8, [.nilFn], true⟩ := by kernel_rfl
theorem ty124 : X.ty 124 = ⟨(.struct [(0, 17), (1, 17), (2, 17), (3, 9)]), 4, 40, [.nilp, .nilp, .nilp, (.str ⟨#[]⟩)], false⟩ := by kernel_rfl
theorem ty125 : X.ty 125 = ⟨(.struct [(0, 17), (1, 17), (2, 17), (3, 9)]), 4, 40, [.nilp, .nilp, .nilp, (.str ⟨#[]⟩)], false⟩ := by kernel_rfl
theorem ty126 : X.ty 126 = ⟨(.arr 0 16), 0, 0, [], true⟩ := by kernel_rfl
theorem ty127 : X.ty 127 = ⟨(.struct [(0, 126)]), 0, 0, [], false⟩ := by kernel_rfl
theorem ty128 : X.ty 128 = ⟨(.struct [(0, 126)]), 0, 0, [], false⟩ := by kernel_rfl
theorem ty129 : X.ty 129 = ⟨.func, 1, 8, [.nilFn], true⟩ := by kernel_rfl
theorem ty130 : X.ty 130 = ⟨(.int .u8), 1, 1, [(.int .u8 0)], true⟩ := by kernel_rfl
theorem ty131 : X.ty 131 = ⟨(.int .u8), 1, 1, [(.int .u8 0)], true⟩ := by kernel_rfl
theorem ty132 : X.ty 132 = ⟨.func, 1, 8, [.nilFn], true⟩ := by kernel_rfl
theorem ty133 : X.ty 133 = ⟨(.ptr 5), 1, 8, [.nilp], true⟩ := by kernel_rfl
theorem ty134 : X.ty 134 = ⟨(.int .i32), 1, 4, [(.int .i32 0)], true⟩ := by kernel_rfl
theorem ty135 : X.ty 135 = ⟨(.int .i32), 1, 4, [(.int .i32 0)], true⟩ := by kernel_rfl
theorem ty136 : X.ty 136 = ⟨(.struct [(0, 12), (1, 12), (2, 98), (3, 130), (4, 5), (5, 5), (6, 131), (7, 132), (8, 133), (9, 134), (10, 135)]), 11, 48, [(.int .u64 0), (.int .u64 0), (.int .u32 0), (.int .u8 0), (.int .u8 0), (.int .u8 0), (.int .u8 0), .nilFn, .nilp, (.int .i32 0), (.int .i32 0)], false⟩ := by kernel_rfl
theorem ty137 : X.ty 137 = ⟨(.struct [(0, 12), (1, 12), (2, 98), (3, 130), (4, 5), (5, 5), (6, 131), (7, 132), (8, 133), (9, 134), (10, 135)]), 11, 48, [(.int .u64 0), (.int .u64 0), (.int .u32 0), (.int .u8 0), (.int .u8 0), (.int .u8 0), (.int .u8 0), .nilFn, .nilp, (.int .i32 0), (.int .i32 0)], false⟩ := by kernel_rfl
theorem ty138 : X.ty 138 = ⟨.other, 1, 8, [.nilp], true⟩ := by kernel_rfl

end Go.Ev
