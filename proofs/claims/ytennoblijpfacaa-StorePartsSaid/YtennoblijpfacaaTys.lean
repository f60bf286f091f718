/-
The types of this seat's program, as the interpreter knows them. Printed by a program (tools/types.lean).
-/
import Derived.Test.YtennoblijpfacaaChk
import Derived.KernelRfl
set_option linter.unusedSimpArgs false
set_option linter.unusedVariables false
namespace Go.Ev

theorem ty0 : X.ty 0 = ⟨.tup, 1, 0, [], true⟩ := by kernel_rfl
theorem ty1 : X.ty 1 = ⟨.func, 1, 8, [.nilFn], true⟩ := by kernel_rfl
theorem ty2 : X.ty 2 = ⟨(.int .i64), 1, 8, [(.int .i64 0)], true⟩ := by kernel_rfl
theorem ty3 : X.ty 3 = ⟨(.int .i64), 1, 8, [(.int .i64 0)], true⟩ := by kernel_rfl
theorem ty4 : X.ty 4 = ⟨.bool, 1, 1, [(.bool false)], true⟩ := by kernel_rfl
theorem ty5 : X.ty 5 = ⟨(.int .u8), 1, 1, [(.int .u8 0)], true⟩ := by kernel_rfl
theorem ty6 : X.ty 6 = ⟨(.int .u8), 1, 1, [(.int .u8 0)], true⟩ := by kernel_rfl
theorem ty7 : X.ty 7 = ⟨(.struct [(0, 2), (1, 3), (2, 4), (3, 6)]), 4, 24, [(.int .i64 0), (.int .i64 0), (.bool false), (.int .u8 0)], true⟩ := by kernel_rfl
theorem ty8 : X.ty 8 = ⟨(.struct [(0, 2), (1, 3), (2, 4), (3, 6)]), 4, 24, [(.int .i64 0), (.int .i64 0), (.bool false), (.int .u8 0)], true⟩ := by kernel_rfl
theorem ty9 : X.ty 9 = ⟨.str, 1, 16, [(.str ⟨#[]⟩)], true⟩ := by kernel_rfl
theorem ty10 : X.ty 10 = ⟨.str, 1, 16, [(.str ⟨#[]⟩)], true⟩ := by kernel_rfl
theorem ty11 : X.ty 11 = ⟨.str, 1, 16, [(.str ⟨#[]⟩)], true⟩ := by kernel_rfl
theorem ty12 : X.ty 12 = ⟨(.int .u64), 1, 8, [(.int .u64 0)], true⟩ := by kernel_rfl
theorem ty13 : X.ty 13 = ⟨(.struct [(0, 9), (1, 12)]), 2, 24, [(.str ⟨#[]⟩), (.int .u64 0)], false⟩ := by kernel_rfl
theorem ty14 : X.ty 14 = ⟨(.struct [(0, 9), (1, 12)]), 2, 24, [(.str ⟨#[]⟩), (.int .u64 0)], false⟩ := by kernel_rfl
theorem ty15 : X.ty 15 = ⟨(.ptr 159), 1, 8, [.nilp], true⟩ := by kernel_rfl
theorem ty16 : X.ty 16 = ⟨(.ptr 162), 1, 8, [.nilp], true⟩ := by kernel_rfl
theorem ty17 : X.ty 17 = ⟨(.ptr 170), 1, 8, [.nilp], true⟩ := by kernel_rfl
theorem ty18 : X.ty 18 = ⟨(.struct [(0, 17)]), 1, 8, [.nilp], false⟩ := by kernel_rfl
theorem ty19 : X.ty 19 = ⟨(.struct [(0, 17)]), 1, 8, [.nilp], false⟩ := by kernel_rfl
theorem ty20 : X.ty 20 = ⟨.other, 1, 16, [], true⟩ := by kernel_rfl
theorem ty21 : X.ty 21 = ⟨(.int .i32), 1, 4, [(.int .i32 0)], true⟩ := by kernel_rfl
theorem ty22 : X.ty 22 = ⟨(.slice 9), 1, 24, [(.sl .nil 0 0 0)], true⟩ := by kernel_rfl
theorem ty23 : X.ty 23 = ⟨(.struct [(0, 3), (1, 3), (2, 3), (3, 3), (4, 3), (5, 22)]), 6, 64, [(.int .i64 0), (.int .i64 0), (.int .i64 0), (.int .i64 0), (.int .i64 0), (.sl .nil 0 0 0)], true⟩ := by kernel_rfl
theorem ty24 : X.ty 24 = ⟨(.struct [(0, 3), (1, 3), (2, 3), (3, 3), (4, 3), (5, 22)]), 6, 64, [(.int .i64 0), (.int .i64 0), (.int .i64 0), (.int .i64 0), (.int .i64 0), (.sl .nil 0 0 0)], true⟩ := by kernel_rfl
theorem ty25 : X.ty 25 = ⟨(.struct [(0, 3), (1, 3)]), 2, 16, [(.int .i64 0), (.int .i64 0)], true⟩ := by kernel_rfl
theorem ty26 : X.ty 26 = ⟨(.struct [(0, 3), (1, 3)]), 2, 16, [(.int .i64 0), (.int .i64 0)], true⟩ := by kernel_rfl
theorem ty27 : X.ty 27 = ⟨.func, 1, 8, [.nilFn], true⟩ := by kernel_rfl
theorem ty28 : X.ty 28 = ⟨.func, 1, 8, [.nilFn], true⟩ := by kernel_rfl
theorem ty29 : X.ty 29 = ⟨(.ptr 83), 1, 8, [.nilp], true⟩ := by kernel_rfl
theorem ty30 : X.ty 30 = ⟨(.int .i64), 1, 8, [(.int .i64 0)], true⟩ := by kernel_rfl
theorem ty31 : X.ty 31 = ⟨.tup, 1, 0, [], true⟩ := by kernel_rfl
theorem ty32 : X.ty 32 = ⟨.func, 1, 8, [.nilFn], true⟩ := by kernel_rfl
theorem ty33 : X.ty 33 = ⟨.func, 1, 8, [.nilFn], true⟩ := by kernel_rfl
theorem ty34 : X.ty 34 = ⟨.func, 1, 8, [.nilFn], true⟩ := by kernel_rfl
theorem ty35 : X.ty 35 = ⟨(.arr 2 3), 2, 16, [(.int .i64 0), (.int .i64 0)], true⟩ := by kernel_rfl
theorem ty36 : X.ty 36 = ⟨.func, 1, 8, [.nilFn], true⟩ := by kernel_rfl
theorem ty37 : X.ty 37 = ⟨(.int .u64), 1, 8, [(.int .u64 0)], true⟩ := by kernel_rfl
theorem ty38 : X.ty 38 = ⟨(.struct [(0, 4), (1, 22)]), 2, 32, [(.bool false), (.sl .nil 0 0 0)], true⟩ := by kernel_rfl
theorem ty39 : X.ty 39 = ⟨(.struct [(0, 4), (1, 22)]), 2, 32, [(.bool false), (.sl .nil 0 0 0)], true⟩ := by kernel_rfl
theorem ty40 : X.ty 40 = ⟨.tup, 1, 0, [], true⟩ := by kernel_rfl
theorem ty41 : X.ty 41 = ⟨.func, 1, 8, [.nilFn], true⟩ := by kernel_rfl
theorem ty42 : X.ty 42 = ⟨.tup, 1, 0, [], true⟩ := by kernel_rfl
theorem ty43 : X.ty 43 = ⟨.func, 1, 8, [.nilFn], true⟩ := by kernel_rfl
theorem ty44 : X.ty 44 = ⟨.tup, 1, 0, [], true⟩ := by kernel_rfl
theorem ty45 : X.ty 45 = ⟨.func, 1, 8, [.nilFn], true⟩ := by kernel_rfl
theorem ty46 : X.ty 46 = ⟨.func, 1, 8, [.nilFn], true⟩ := by kernel_rfl
theorem ty47 : X.ty 47 = ⟨.func, 1, 8, [.nilFn], true⟩ := by kernel_rfl
theorem ty48 : X.ty 48 = ⟨(.slice 24), 1, 24, [(.sl .nil 0 0 0)], true⟩ := by kernel_rfl
theorem ty49 : X.ty 49 = ⟨(.ptr 62), 1, 8, [.nilp], true⟩ := by kernel_rfl
theorem ty50 : X.ty 50 = ⟨.tup, 1, 0, [], true⟩ := by kernel_rfl
theorem ty51 : X.ty 51 = ⟨.func, 1, 8, [.nilFn], true⟩ := by kernel_rfl
theorem ty52 : X.ty 52 = ⟨.func, 1, 8, [.nilFn], true⟩ := by kernel_rfl
theorem ty53 : X.ty 53 = ⟨.func, 1, 8, [.nilFn], true⟩ := by kernel_rfl
theorem ty54 : X.ty 54 = ⟨.func, 1, 8, [.nilFn], true⟩ := by kernel_rfl
theorem ty55 : X.ty 55 = ⟨.func, 1, 8, [.nilFn], true⟩ := by kernel_rfl
theorem ty56 : X.ty 56 = ⟨.func, 1, 8, [.nilFn], true⟩ := by kernel_rfl
theorem ty57 : X.ty 57 = ⟨.func, 1, 8, [.nilFn], true⟩ := by kernel_rfl
theorem ty58 : X.ty 58 = ⟨.func, 1, 8, [.nilFn], true⟩ := by kernel_rfl
theorem ty59 : X.ty 59 = ⟨.func, 1, 8, [.nilFn], true⟩ := by kernel_rfl
theorem ty60 : X.ty 60 = ⟨(.slice 102), 1, 24, [(.sl .nil 0 0 0)], true⟩ := by kernel_rfl
theorem ty61 : X.ty 61 = ⟨(.struct [(0, 26), (2, 4), (3, 22), (4, 60)]), 5, 72, [(.int .i64 0), (.int .i64 0), (.bool false), (.sl .nil 0 0 0), (.sl .nil 0 0 0)], true⟩ := by kernel_rfl
theorem ty62 : X.ty 62 = ⟨(.struct [(0, 26), (2, 4), (3, 22), (4, 60)]), 5, 72, [(.int .i64 0), (.int .i64 0), (.bool false), (.sl .nil 0 0 0), (.sl .nil 0 0 0)], true⟩ := by kernel_rfl
theorem ty63 : X.ty 63 = ⟨.func, 1, 8, [.nilFn], true⟩ := by kernel_rfl
theorem ty64 : X.ty 64 = ⟨(.slice 5), 1, 24, [(.sl .nil 0 0 0)], true⟩ := by kernel_rfl
theorem ty65 : X.ty 65 = ⟨.func, 1, 8, [.nilFn], true⟩ := by kernel_rfl
theorem ty66 : X.ty 66 = ⟨.func, 1, 8, [.nilFn], true⟩ := by kernel_rfl
theorem ty67 : X.ty 67 = ⟨(.struct [(0, 64)]), 1, 24, [(.sl .nil 0 0 0)], true⟩ := by kernel_rfl
theorem ty68 : X.ty 68 = ⟨(.struct [(0, 64)]), 1, 24, [(.sl .nil 0 0 0)], true⟩ := by kernel_rfl
theorem ty69 : X.ty 69 = ⟨.func, 1, 8, [.nilFn], true⟩ := by kernel_rfl
theorem ty70 : X.ty 70 = ⟨(.ptr 68), 1, 8, [.nilp], true⟩ := by kernel_rfl
theorem ty71 : X.ty 71 = ⟨.func, 1, 8, [.nilFn], true⟩ := by kernel_rfl
theorem ty72 : X.ty 72 = ⟨(.ptr 117), 1, 8, [.nilp], true⟩ := by kernel_rfl
theorem ty73 : X.ty 73 = ⟨.func, 1, 8, [.nilFn], true⟩ := by kernel_rfl
theorem ty74 : X.ty 74 = ⟨.func, 1, 8, [.nilFn], true⟩ := by kernel_rfl
theorem ty75 : X.ty 75 = ⟨.func, 1, 8, [.nilFn], true⟩ := by kernel_rfl
theorem ty76 : X.ty 76 = ⟨.func, 1, 8, [.nilFn], true⟩ := by kernel_rfl
theorem ty77 : X.ty 77 = ⟨.func, 1, 8, [.nilFn], true⟩ := by kernel_rfl
theorem ty78 : X.ty 78 = ⟨.tup, 1, 0, [], true⟩ := by kernel_rfl
theorem ty79 : X.ty 79 = ⟨.func, 1, 8, [.nilFn], true⟩ := by kernel_rfl
theorem ty80 : X.ty 80 = ⟨.func, 1, 8, [.nilFn], true⟩ := by kernel_rfl
theorem ty81 : X.ty 81 = ⟨(.slice 95), 1, 24, [(.sl .nil 0 0 0)], true⟩ := by kernel_rfl
theorem ty82 : X.ty 82 = ⟨(.struct [(0, 26), (2, 4), (3, 81)]), 4, 48, [(.int .i64 0), (.int .i64 0), (.bool false), (.sl .nil 0 0 0)], true⟩ := by kernel_rfl
theorem ty83 : X.ty 83 = ⟨(.struct [(0, 26), (2, 4), (3, 81)]), 4, 48, [(.int .i64 0), (.int .i64 0), (.bool false), (.sl .nil 0 0 0)], true⟩ := by kernel_rfl
theorem ty84 : X.ty 84 = ⟨.func, 1, 8, [.nilFn], true⟩ := by kernel_rfl
theorem ty85 : X.ty 85 = ⟨.func, 1, 8, [.nilFn], true⟩ := by kernel_rfl
theorem ty86 : X.ty 86 = ⟨.func, 1, 8, [.nilFn], true⟩ := by kernel_rfl
theorem ty87 : X.ty 87 = ⟨.func, 1, 8, [.nilFn], true⟩ := by kernel_rfl
theorem ty88 : X.ty 88 = ⟨.func, 1, 8, [.nilFn], true⟩ := by kernel_rfl
theorem ty89 : X.ty 89 = ⟨.func, 1, 8, [.nilFn], true⟩ := by kernel_rfl
theorem ty90 : X.ty 90 = ⟨(.slice 26), 1, 24, [(.sl .nil 0 0 0)], true⟩ := by kernel_rfl
theorem ty91 : X.ty 91 = ⟨(.ptr 95), 1, 8, [.nilp], true⟩ := by kernel_rfl
theorem ty92 : X.ty 92 = ⟨(.arr 4 3), 4, 32, [(.int .i64 0), (.int .i64 0), (.int .i64 0), (.int .i64 0)], true⟩ := by kernel_rfl
theorem ty93 : X.ty 93 = ⟨(.arr 4 3), 4, 32, [(.int .i64 0), (.int .i64 0), (.int .i64 0), (.int .i64 0)], true⟩ := by kernel_rfl
theorem ty94 : X.ty 94 = ⟨(.struct [(0, 9), (1, 93)]), 5, 48, [(.str ⟨#[]⟩), (.int .i64 0), (.int .i64 0), (.int .i64 0), (.int .i64 0)], true⟩ := by kernel_rfl
theorem ty95 : X.ty 95 = ⟨(.struct [(0, 9), (1, 93)]), 5, 48, [(.str ⟨#[]⟩), (.int .i64 0), (.int .i64 0), (.int .i64 0), (.int .i64 0)], true⟩ := by kernel_rfl
theorem ty96 : X.ty 96 = ⟨.tup, 1, 0, [], true⟩ := by kernel_rfl
theorem ty97 : X.ty 97 = ⟨.func, 1, 8, [.nilFn], true⟩ := by kernel_rfl
theorem ty98 : X.ty 98 = ⟨.func, 1, 8, [.nilFn], true⟩ := by kernel_rfl
theorem ty99 : X.ty 99 = ⟨.func, 1, 8, [.nilFn], true⟩ := by kernel_rfl
theorem ty100 : X.ty 100 = ⟨.tup, 1, 0, [], true⟩ := by kernel_rfl
theorem ty101 : X.ty 101 = ⟨.func, 1, 8, [.nilFn], true⟩ := by kernel_rfl
theorem ty102 : X.ty 102 = ⟨(.slice 3), 1, 24, [(.sl .nil 0 0 0)], true⟩ := by kernel_rfl
theorem ty103 : X.ty 103 = ⟨.func, 1, 8, [.nilFn], true⟩ := by kernel_rfl
theorem ty104 : X.ty 104 = ⟨(.slice 29), 1, 24, [(.sl .nil 0 0 0)], true⟩ := by kernel_rfl
theorem ty105 : X.ty 105 = ⟨.func, 1, 8, [.nilFn], true⟩ := by kernel_rfl
theorem ty106 : X.ty 106 = ⟨(.int .u64), 1, 8, [(.int .u64 0)], true⟩ := by kernel_rfl
theorem ty107 : X.ty 107 = ⟨.func, 1, 8, [.nilFn], true⟩ := by kernel_rfl
theorem ty108 : X.ty 108 = ⟨.func, 1, 8, [.nilFn], true⟩ := by kernel_rfl
theorem ty109 : X.ty 109 = ⟨.func, 1, 8, [.nilFn], true⟩ := by kernel_rfl
theorem ty110 : X.ty 110 = ⟨.func, 1, 8, [.nilFn], true⟩ := by kernel_rfl
theorem ty111 : X.ty 111 = ⟨.func, 1, 8, [.nilFn], true⟩ := by kernel_rfl
theorem ty112 : X.ty 112 = ⟨.func, 1, 8, [.nilFn], true⟩ := by kernel_rfl
theorem ty113 : X.ty 113 = ⟨.func, 1, 8, [.nilFn], true⟩ := by kernel_rfl
theorem ty114 : X.ty 114 = ⟨.func, 1, 8, [.nilFn], true⟩ := by kernel_rfl
theorem ty115 : X.ty 115 = ⟨.func, 1, 8, [.nilFn], true⟩ := by kernel_rfl
theorem ty116 : X.ty 116 = ⟨(.struct [(0, 64), (1, 3), (2, 4)]), 3, 40, [(.sl .nil 0 0 0), (.int .i64 0), (.bool false)], true⟩ := by kernel_rfl
theorem ty117 : X.ty 117 = ⟨(.struct [(0, 64), (1, 3), (2, 4)]), 3, 40, [(.sl .nil 0 0 0), (.int .i64 0), (.bool false)], true⟩ := by kernel_rfl
theorem ty118 : X.ty 118 = ⟨.func, 1, 8, [.nilFn], true⟩ := by kernel_rfl
theorem ty119 : X.ty 119 = ⟨(.ptr 3), 1, 8, [.nilp], true⟩ := by kernel_rfl
theorem ty120 : X.ty 120 = ⟨(.slice 119), 1, 24, [(.sl .nil 0 0 0)], true⟩ := by kernel_rfl
theorem ty121 : X.ty 121 = ⟨.func, 1, 8, [.nilFn], true⟩ := by kernel_rfl
theorem ty122 : X.ty 122 = ⟨.func, 1, 8, [.nilFn], true⟩ := by kernel_rfl
theorem ty123 : X.ty 123 = ⟨.func, 1, 8, [.nilFn], true⟩ := by kernel_rfl
theorem ty124 : X.ty 124 = ⟨.func, 1, 8, [.nilFn], true⟩ := by kernel_rfl
theorem ty125 : X.ty 125 = ⟨.func, 1, 8, [.nilFn], true⟩ := by kernel_rfl
theorem ty126 : X.ty 126 = ⟨.tup, 1, 0, [], true⟩ := by kernel_rfl
theorem ty127 : X.ty 127 = ⟨.func, 1, 8, [.nilFn], true⟩ := by kernel_rfl
theorem ty128 : X.ty 128 = ⟨.tup, 1, 0, [], true⟩ := by kernel_rfl
theorem ty129 : X.ty 129 = ⟨.func, 1, 8, [.nilFn], true⟩ := by kernel_rfl
theorem ty130 : X.ty 130 = ⟨.func, 1, 8, [.nilFn], true⟩ := by kernel_rfl
theorem ty131 : X.ty 131 = ⟨.func, 1, 8, [.nilFn], true⟩ := by kernel_rfl
theorem ty132 : X.ty 132 = ⟨.func, 1, 8, [.nilFn], true⟩ := by kernel_rfl
theorem ty133 : X.ty 133 = ⟨.func, 1, 8, [.nilFn], true⟩ := by kernel_rfl
theorem ty134 : X.ty 134 = ⟨.func, 1, 8, [.nilFn], true⟩ := by kernel_rfl
theorem ty135 : X.ty 135 = ⟨.func, 1, 8, [.nilFn], true⟩ := by kernel_rfl
theorem ty136 : X.ty 136 = ⟨.func, 1, 8, [.nilFn], true⟩ := by kernel_rfl
theorem ty137 : X.ty 137 = ⟨.func, 1, 8, [.nilFn], true⟩ := by kernel_rfl
theorem ty138 : X.ty 138 = ⟨.func, 1, 8, [.nilFn], true⟩ := by kernel_rfl
theorem ty139 : X.ty 139 = ⟨.func, 1, 8, [.nilFn], true⟩ := by kernel_rfl
theorem ty140 : X.ty 140 = ⟨.func, 1, 8, [.nilFn], true⟩ := by kernel_rfl
theorem ty141 : X.ty 141 = ⟨.func, 1, 8, [.nilFn], true⟩ := by kernel_rfl
theorem ty142 : X.ty 142 = ⟨(.int .i64), 1, 8, [(.int .i64 0)], true⟩ := by kernel_rfl
theorem ty143 : X.ty 143 = ⟨.tup, 1, 0, [], true⟩ := by kernel_rfl
theorem ty144 : X.ty 144 = ⟨.func, 1, 8, [.nilFn], true⟩ := by kernel_rfl
theorem ty145 : X.ty 145 = ⟨.func, 1, 8, [.nilFn], true⟩ := by kernel_rfl
theorem ty146 : X.ty 146 = ⟨.func, 1, 8, [.nilFn], true⟩ := by kernel_rfl
theorem ty147 : X.ty 147 = ⟨.tup, 1, 0, [], true⟩ := by kernel_rfl
theorem ty148 : X.ty 148 = ⟨.func, 1, 8, [.nilFn], true⟩ := by kernel_rfl
theorem ty149 : X.ty 149 = ⟨.func, 1, 8, [.nilFn], true⟩ := by kernel_rfl
theorem ty150 : X.ty 150 = ⟨(.int .u32), 1, 4, [(.int .u32 0)], true⟩ := by kernel_rfl
theorem ty151 : X.ty 151 = ⟨(.int .u64), 1, 8, [(.int .u64 0)], true⟩ := by kernel_rfl
theorem ty152 : X.ty 152 = ⟨.func, 1, 8, [.nilFn], true⟩ := by kernel_rfl
theorem ty153 : X.ty 153 = ⟨.func, 1, 8, [.nilFn], true⟩ := by kernel_rfl
theorem ty154 : X.ty 154 = ⟨.func, 1, 8, [.nilFn], true⟩ := by kernel_rfl
theorem ty155 : X.ty 155 = ⟨(.ptr 151), 1, 8, [.nilp], true⟩ := by kernel_rfl
theorem ty156 : X.ty 156 = ⟨.tup, 1, 0, [], true⟩ := by kernel_rfl
theorem ty157 : X.ty 157 = ⟨.func, 1, 8, [.nilFn], true⟩ := by kernel_rfl
theorem ty158 : X.ty 158 = ⟨(.struct [(0, 17), (1, 17), (2, 17), (3, 9)]), 4, 40, [.nilp, .nilp, .nilp, (.str ⟨#[]⟩)], false⟩ := by kernel_rfl
theorem ty159 : X.ty 159 = ⟨(.struct [(0, 17), (1, 17), (2, 17), (3, 9)]), 4, 40, [.nilp, .nilp, .nilp, (.str ⟨#[]⟩)], false⟩ := by kernel_rfl
theorem ty160 : X.ty 160 = ⟨(.arr 0 16), 0, 0, [], true⟩ := by kernel_rfl
theorem ty161 : X.ty 161 = ⟨(.struct [(0, 160)]), 0, 0, [], false⟩ := by kernel_rfl
theorem ty162 : X.ty 162 = ⟨(.struct [(0, 160)]), 0, 0, [], false⟩ := by kernel_rfl
theorem ty163 : X.ty 163 = ⟨(.int .u8), 1, 1, [(.int .u8 0)], true⟩ := by kernel_rfl
theorem ty164 : X.ty 164 = ⟨(.int .u8), 1, 1, [(.int .u8 0)], true⟩ := by kernel_rfl
theorem ty165 : X.ty 165 = ⟨.func, 1, 8, [.nilFn], true⟩ := by kernel_rfl
theorem ty166 : X.ty 166 = ⟨(.ptr 5), 1, 8, [.nilp], true⟩ := by kernel_rfl
theorem ty167 : X.ty 167 = ⟨(.int .i32), 1, 4, [(.int .i32 0)], true⟩ := by kernel_rfl
theorem ty168 : X.ty 168 = ⟨(.int .i32), 1, 4, [(.int .i32 0)], true⟩ := by kernel_rfl
theorem ty169 : X.ty 169 = ⟨(.struct [(0, 12), (1, 12), (2, 150), (3, 163), (4, 5), (5, 5), (6, 164), (7, 165), (8, 166), (9, 167), (10, 168)]), 11, 48, [(.int .u64 0), (.int .u64 0), (.int .u32 0), (.int .u8 0), (.int .u8 0), (.int .u8 0), (.int .u8 0), .nilFn, .nilp, (.int .i32 0), (.int .i32 0)], false⟩ := by kernel_rfl
theorem ty170 : X.ty 170 = ⟨(.struct [(0, 12), (1, 12), (2, 150), (3, 163), (4, 5), (5, 5), (6, 164), (7, 165), (8, 166), (9, 167), (10, 168)]), 11, 48, [(.int .u64 0), (.int .u64 0), (.int .u32 0), (.int .u8 0), (.int .u8 0), (.int .u8 0), (.int .u8 0), .nilFn, .nilp, (.int .i32 0), (.int .i32 0)], false⟩ := by kernel_rfl
theorem ty171 : X.ty 171 = ⟨.other, 1, 8, [.nilp], true⟩ := by kernel_rfl

end Go.Ev
