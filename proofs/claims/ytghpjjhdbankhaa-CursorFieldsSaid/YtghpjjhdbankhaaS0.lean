/- THE SEAT'S TYPES AND FUNCTIONS AS THE ABSTRACT MACHINE SEES THEM. -/
import Derived.Test.YtghpjjhdbankhaaAm36
import Derived.KernelRfl
import Derived.Test.YtghpjjhdbankhaaProg
set_option linter.unusedVariables false
namespace Go.Am.B
open Go.Proofs

noncomputable abbrev cfg (w : Ways) : Cfg := cfgP Try.prog w

theorem ty1 : tyOf Try.prog 1 = some ⟨.func, 1, 8, some [.nilf]⟩ := by kernel_rfl
theorem ty2 : tyOf Try.prog 2 = some ⟨.int .i64, 1, 8, some [.int .i64 0]⟩ := by kernel_rfl
theorem ty3 : tyOf Try.prog 3 = some ⟨.int .i64, 1, 8, some [.int .i64 0]⟩ := by kernel_rfl
theorem ty4 : tyOf Try.prog 4 = some ⟨.bool, 1, 1, some [.bool false]⟩ := by kernel_rfl
theorem ty5 : tyOf Try.prog 5 = some ⟨.int .u8, 1, 1, some [.int .u8 0]⟩ := by kernel_rfl
theorem ty6 : tyOf Try.prog 6 = some ⟨.int .u8, 1, 1, some [.int .u8 0]⟩ := by kernel_rfl
theorem ty7 : tyOf Try.prog 7 = some ⟨.struct [(2, 0), (3, 1), (4, 2), (6, 3)], 4, 24, some [.int .i64 0, .int .i64 0, .bool false, .int .u8 0]⟩ := by kernel_rfl
theorem ty8 : tyOf Try.prog 8 = some ⟨.struct [(2, 0), (3, 1), (4, 2), (6, 3)], 4, 24, some [.int .i64 0, .int .i64 0, .bool false, .int .u8 0]⟩ := by kernel_rfl
theorem ty9 : tyOf Try.prog 9 = some ⟨.str, 1, 16, some [.str []]⟩ := by kernel_rfl
theorem ty10 : tyOf Try.prog 10 = some ⟨.str, 1, 16, some [.str []]⟩ := by kernel_rfl
theorem ty11 : tyOf Try.prog 11 = some ⟨.str, 1, 16, some [.str []]⟩ := by kernel_rfl
theorem ty12 : tyOf Try.prog 12 = some ⟨.int .u64, 1, 8, some [.int .u64 0]⟩ := by kernel_rfl
theorem ty13 : tyOf Try.prog 13 = some ⟨.struct [(9, 0), (12, 1)], 2, 24, some [.str [], .int .u64 0]⟩ := by kernel_rfl
theorem ty14 : tyOf Try.prog 14 = some ⟨.struct [(9, 0), (12, 1)], 2, 24, some [.str [], .int .u64 0]⟩ := by kernel_rfl
theorem ty15 : tyOf Try.prog 15 = some ⟨.ptr 115, 1, 8, some [.nilp]⟩ := by kernel_rfl
theorem ty16 : tyOf Try.prog 16 = some ⟨.ptr 118, 1, 8, some [.nilp]⟩ := by kernel_rfl
theorem ty17 : tyOf Try.prog 17 = some ⟨.ptr 127, 1, 8, some [.nilp]⟩ := by kernel_rfl
theorem ty18 : tyOf Try.prog 18 = some ⟨.struct [(17, 0)], 1, 8, some [.nilp]⟩ := by kernel_rfl
theorem ty19 : tyOf Try.prog 19 = some ⟨.struct [(17, 0)], 1, 8, some [.nilp]⟩ := by kernel_rfl
theorem ty20 : tyOf Try.prog 20 = some ⟨.iface, 1, 16, some [.nili]⟩ := by kernel_rfl
theorem ty21 : tyOf Try.prog 21 = some ⟨.int .i32, 1, 4, some [.int .i32 0]⟩ := by kernel_rfl
theorem ty22 : tyOf Try.prog 22 = some ⟨.int .u64, 1, 8, some [.int .u64 0]⟩ := by kernel_rfl
theorem ty23 : tyOf Try.prog 23 = some ⟨.slice 29, 1, 24, some [.nils]⟩ := by kernel_rfl
theorem ty24 : tyOf Try.prog 24 = some ⟨.func, 1, 8, some [.nilf]⟩ := by kernel_rfl
theorem ty25 : tyOf Try.prog 25 = some ⟨.func, 1, 8, some [.nilf]⟩ := by kernel_rfl
theorem ty26 : tyOf Try.prog 26 = some ⟨.struct [(3, 0), (3, 1), (9, 2)], 3, 32, some [.int .i64 0, .int .i64 0, .str []]⟩ := by kernel_rfl
theorem ty27 : tyOf Try.prog 27 = some ⟨.struct [(3, 0), (3, 1), (9, 2)], 3, 32, some [.int .i64 0, .int .i64 0, .str []]⟩ := by kernel_rfl
theorem ty28 : tyOf Try.prog 28 = some ⟨.struct [(3, 0), (27, 1), (3, 4), (3, 5), (3, 6)], 7, 64, some [.int .i64 0, .int .i64 0, .int .i64 0, .str [], .int .i64 0, .int .i64 0, .int .i64 0]⟩ := by kernel_rfl
theorem ty29 : tyOf Try.prog 29 = some ⟨.struct [(3, 0), (27, 1), (3, 4), (3, 5), (3, 6)], 7, 64, some [.int .i64 0, .int .i64 0, .int .i64 0, .str [], .int .i64 0, .int .i64 0, .int .i64 0]⟩ := by kernel_rfl
theorem ty30 : tyOf Try.prog 30 = some ⟨.func, 1, 8, some [.nilf]⟩ := by kernel_rfl
theorem ty31 : tyOf Try.prog 31 = some ⟨.func, 1, 8, some [.nilf]⟩ := by kernel_rfl
theorem ty32 : tyOf Try.prog 32 = some ⟨.func, 1, 8, some [.nilf]⟩ := by kernel_rfl
theorem ty33 : tyOf Try.prog 33 = some ⟨.func, 1, 8, some [.nilf]⟩ := by kernel_rfl
theorem ty34 : tyOf Try.prog 34 = some ⟨.func, 1, 8, some [.nilf]⟩ := by kernel_rfl
theorem ty35 : tyOf Try.prog 35 = some ⟨.func, 1, 8, some [.nilf]⟩ := by kernel_rfl
theorem ty36 : tyOf Try.prog 36 = some ⟨.slice 38, 1, 24, some [.nils]⟩ := by kernel_rfl
theorem ty37 : tyOf Try.prog 37 = some ⟨.struct [(9, 0), (4, 1), (9, 2), (3, 3), (3, 4), (3, 5), (36, 6)], 7, 88, some [.str [], .bool false, .str [], .int .i64 0, .int .i64 0, .int .i64 0, .nils]⟩ := by kernel_rfl
theorem ty38 : tyOf Try.prog 38 = some ⟨.struct [(9, 0), (4, 1), (9, 2), (3, 3), (3, 4), (3, 5), (36, 6)], 7, 88, some [.str [], .bool false, .str [], .int .i64 0, .int .i64 0, .int .i64 0, .nils]⟩ := by kernel_rfl
theorem ty39 : tyOf Try.prog 39 = some ⟨.slice 3, 1, 24, some [.nils]⟩ := by kernel_rfl
theorem ty40 : tyOf Try.prog 40 = some ⟨.func, 1, 8, some [.nilf]⟩ := by kernel_rfl
theorem ty41 : tyOf Try.prog 41 = some ⟨.slice 39, 1, 24, some [.nils]⟩ := by kernel_rfl
theorem ty42 : tyOf Try.prog 42 = some ⟨.func, 1, 8, some [.nilf]⟩ := by kernel_rfl
theorem ty43 : tyOf Try.prog 43 = some ⟨.func, 1, 8, some [.nilf]⟩ := by kernel_rfl
theorem ty44 : tyOf Try.prog 44 = some ⟨.func, 1, 8, some [.nilf]⟩ := by kernel_rfl
theorem ty45 : tyOf Try.prog 45 = some ⟨.func, 1, 8, some [.nilf]⟩ := by kernel_rfl
theorem ty47 : tyOf Try.prog 47 = some ⟨.func, 1, 8, some [.nilf]⟩ := by kernel_rfl
theorem ty49 : tyOf Try.prog 49 = some ⟨.func, 1, 8, some [.nilf]⟩ := by kernel_rfl
theorem ty50 : tyOf Try.prog 50 = some ⟨.func, 1, 8, some [.nilf]⟩ := by kernel_rfl
theorem ty52 : tyOf Try.prog 52 = some ⟨.func, 1, 8, some [.nilf]⟩ := by kernel_rfl
theorem ty53 : tyOf Try.prog 53 = some ⟨.func, 1, 8, some [.nilf]⟩ := by kernel_rfl
theorem ty54 : tyOf Try.prog 54 = some ⟨.func, 1, 8, some [.nilf]⟩ := by kernel_rfl
theorem ty55 : tyOf Try.prog 55 = some ⟨.func, 1, 8, some [.nilf]⟩ := by kernel_rfl
theorem ty56 : tyOf Try.prog 56 = some ⟨.func, 1, 8, some [.nilf]⟩ := by kernel_rfl
theorem ty57 : tyOf Try.prog 57 = some ⟨.func, 1, 8, some [.nilf]⟩ := by kernel_rfl
theorem ty58 : tyOf Try.prog 58 = some ⟨.func, 1, 8, some [.nilf]⟩ := by kernel_rfl
theorem ty59 : tyOf Try.prog 59 = some ⟨.func, 1, 8, some [.nilf]⟩ := by kernel_rfl
theorem ty60 : tyOf Try.prog 60 = some ⟨.func, 1, 8, some [.nilf]⟩ := by kernel_rfl
theorem ty61 : tyOf Try.prog 61 = some ⟨.int .u16, 1, 2, some [.int .u16 0]⟩ := by kernel_rfl
theorem ty62 : tyOf Try.prog 62 = some ⟨.func, 1, 8, some [.nilf]⟩ := by kernel_rfl
theorem ty63 : tyOf Try.prog 63 = some ⟨.func, 1, 8, some [.nilf]⟩ := by kernel_rfl
theorem ty64 : tyOf Try.prog 64 = some ⟨.func, 1, 8, some [.nilf]⟩ := by kernel_rfl
theorem ty65 : tyOf Try.prog 65 = some ⟨.func, 1, 8, some [.nilf]⟩ := by kernel_rfl
theorem ty66 : tyOf Try.prog 66 = some ⟨.func, 1, 8, some [.nilf]⟩ := by kernel_rfl
theorem ty67 : tyOf Try.prog 67 = some ⟨.array 16 22, 16, 128, some [.int .u64 0, .int .u64 0, .int .u64 0, .int .u64 0, .int .u64 0, .int .u64 0, .int .u64 0, .int .u64 0, .int .u64 0, .int .u64 0, .int .u64 0, .int .u64 0, .int .u64 0, .int .u64 0, .int .u64 0, .int .u64 0]⟩ := by kernel_rfl
theorem ty68 : tyOf Try.prog 68 = some ⟨.func, 1, 8, some [.nilf]⟩ := by kernel_rfl
theorem ty69 : tyOf Try.prog 69 = some ⟨.array 10 9, 10, 160, some [.str [], .str [], .str [], .str [], .str [], .str [], .str [], .str [], .str [], .str []]⟩ := by kernel_rfl
theorem ty70 : tyOf Try.prog 70 = some ⟨.func, 1, 8, some [.nilf]⟩ := by kernel_rfl
theorem ty71 : tyOf Try.prog 71 = some ⟨.int .u64, 1, 8, some [.int .u64 0]⟩ := by kernel_rfl
theorem ty72 : tyOf Try.prog 72 = some ⟨.array 4 9, 4, 64, some [.str [], .str [], .str [], .str []]⟩ := by kernel_rfl
theorem ty73 : tyOf Try.prog 73 = some ⟨.func, 1, 8, some [.nilf]⟩ := by kernel_rfl
theorem ty74 : tyOf Try.prog 74 = some ⟨.slice 9, 1, 24, some [.nils]⟩ := by kernel_rfl
theorem ty75 : tyOf Try.prog 75 = some ⟨.func, 1, 8, some [.nilf]⟩ := by kernel_rfl
theorem ty76 : tyOf Try.prog 76 = some ⟨.func, 1, 8, some [.nilf]⟩ := by kernel_rfl
theorem ty77 : tyOf Try.prog 77 = some ⟨.ptr 80, 1, 8, some [.nilp]⟩ := by kernel_rfl
theorem ty78 : tyOf Try.prog 78 = some ⟨.slice 5, 1, 24, some [.nils]⟩ := by kernel_rfl
theorem ty79 : tyOf Try.prog 79 = some ⟨.struct [(77, 0), (78, 1)], 2, 32, some [.nilp, .nils]⟩ := by kernel_rfl
theorem ty80 : tyOf Try.prog 80 = some ⟨.struct [(77, 0), (78, 1)], 2, 32, some [.nilp, .nils]⟩ := by kernel_rfl
theorem ty81 : tyOf Try.prog 81 = some ⟨.slice 22, 1, 24, some [.nils]⟩ := by kernel_rfl
theorem ty82 : tyOf Try.prog 82 = some ⟨.iface, 1, 16, some [.nili]⟩ := by kernel_rfl
theorem ty83 : tyOf Try.prog 83 = some ⟨.iface, 1, 16, some [.nili]⟩ := by kernel_rfl
theorem ty85 : tyOf Try.prog 85 = some ⟨.func, 1, 8, some [.nilf]⟩ := by kernel_rfl
theorem ty86 : tyOf Try.prog 86 = some ⟨.func, 1, 8, some [.nilf]⟩ := by kernel_rfl
theorem ty87 : tyOf Try.prog 87 = some ⟨.func, 1, 8, some [.nilf]⟩ := by kernel_rfl
theorem ty88 : tyOf Try.prog 88 = some ⟨.func, 1, 8, some [.nilf]⟩ := by kernel_rfl
theorem ty89 : tyOf Try.prog 89 = some ⟨.func, 1, 8, some [.nilf]⟩ := by kernel_rfl
theorem ty90 : tyOf Try.prog 90 = some ⟨.func, 1, 8, some [.nilf]⟩ := by kernel_rfl
theorem ty91 : tyOf Try.prog 91 = some ⟨.func, 1, 8, some [.nilf]⟩ := by kernel_rfl
theorem ty92 : tyOf Try.prog 92 = some ⟨.func, 1, 8, some [.nilf]⟩ := by kernel_rfl
theorem ty93 : tyOf Try.prog 93 = some ⟨.func, 1, 8, some [.nilf]⟩ := by kernel_rfl
theorem ty94 : tyOf Try.prog 94 = some ⟨.func, 1, 8, some [.nilf]⟩ := by kernel_rfl
theorem ty95 : tyOf Try.prog 95 = some ⟨.func, 1, 8, some [.nilf]⟩ := by kernel_rfl
theorem ty96 : tyOf Try.prog 96 = some ⟨.func, 1, 8, some [.nilf]⟩ := by kernel_rfl
theorem ty97 : tyOf Try.prog 97 = some ⟨.func, 1, 8, some [.nilf]⟩ := by kernel_rfl
theorem ty98 : tyOf Try.prog 98 = some ⟨.func, 1, 8, some [.nilf]⟩ := by kernel_rfl
theorem ty99 : tyOf Try.prog 99 = some ⟨.func, 1, 8, some [.nilf]⟩ := by kernel_rfl
theorem ty100 : tyOf Try.prog 100 = some ⟨.func, 1, 8, some [.nilf]⟩ := by kernel_rfl
theorem ty101 : tyOf Try.prog 101 = some ⟨.func, 1, 8, some [.nilf]⟩ := by kernel_rfl
theorem ty102 : tyOf Try.prog 102 = some ⟨.func, 1, 8, some [.nilf]⟩ := by kernel_rfl
theorem ty103 : tyOf Try.prog 103 = some ⟨.func, 1, 8, some [.nilf]⟩ := by kernel_rfl
theorem ty104 : tyOf Try.prog 104 = some ⟨.ptr 5, 1, 8, some [.nilp]⟩ := by kernel_rfl
theorem ty105 : tyOf Try.prog 105 = some ⟨.func, 1, 8, some [.nilf]⟩ := by kernel_rfl
theorem ty106 : tyOf Try.prog 106 = some ⟨.func, 1, 8, some [.nilf]⟩ := by kernel_rfl
theorem ty107 : tyOf Try.prog 107 = some ⟨.func, 1, 8, some [.nilf]⟩ := by kernel_rfl
theorem ty108 : tyOf Try.prog 108 = some ⟨.func, 1, 8, some [.nilf]⟩ := by kernel_rfl
theorem ty109 : tyOf Try.prog 109 = some ⟨.func, 1, 8, some [.nilf]⟩ := by kernel_rfl
theorem ty111 : tyOf Try.prog 111 = some ⟨.func, 1, 8, some [.nilf]⟩ := by kernel_rfl
theorem ty112 : tyOf Try.prog 112 = some ⟨.func, 1, 8, some [.nilf]⟩ := by kernel_rfl
theorem ty113 : tyOf Try.prog 113 = some ⟨.func, 1, 8, some [.nilf]⟩ := by kernel_rfl
theorem ty114 : tyOf Try.prog 114 = some ⟨.struct [(17, 0), (17, 1), (17, 2), (9, 3)], 4, 40, some [.nilp, .nilp, .nilp, .str []]⟩ := by kernel_rfl
theorem ty115 : tyOf Try.prog 115 = some ⟨.struct [(17, 0), (17, 1), (17, 2), (9, 3)], 4, 40, some [.nilp, .nilp, .nilp, .str []]⟩ := by kernel_rfl
theorem ty116 : tyOf Try.prog 116 = some ⟨.array 0 16, 0, 0, some []⟩ := by kernel_rfl
theorem ty117 : tyOf Try.prog 117 = some ⟨.struct [(116, 0)], 0, 0, some []⟩ := by kernel_rfl
theorem ty118 : tyOf Try.prog 118 = some ⟨.struct [(116, 0)], 0, 0, some []⟩ := by kernel_rfl
theorem ty119 : tyOf Try.prog 119 = some ⟨.func, 1, 8, some [.nilf]⟩ := by kernel_rfl
theorem ty120 : tyOf Try.prog 120 = some ⟨.int .u32, 1, 4, some [.int .u32 0]⟩ := by kernel_rfl
theorem ty121 : tyOf Try.prog 121 = some ⟨.int .u8, 1, 1, some [.int .u8 0]⟩ := by kernel_rfl
theorem ty122 : tyOf Try.prog 122 = some ⟨.int .u8, 1, 1, some [.int .u8 0]⟩ := by kernel_rfl
theorem ty123 : tyOf Try.prog 123 = some ⟨.func, 1, 8, some [.nilf]⟩ := by kernel_rfl
theorem ty124 : tyOf Try.prog 124 = some ⟨.int .i32, 1, 4, some [.int .i32 0]⟩ := by kernel_rfl
theorem ty125 : tyOf Try.prog 125 = some ⟨.int .i32, 1, 4, some [.int .i32 0]⟩ := by kernel_rfl
theorem ty126 : tyOf Try.prog 126 = some ⟨.struct [(12, 0), (12, 1), (120, 2), (121, 3), (5, 4), (5, 5), (122, 6), (123, 7), (104, 8), (124, 9), (125, 10)], 11, 48, some [.int .u64 0, .int .u64 0, .int .u32 0, .int .u8 0, .int .u8 0, .int .u8 0, .int .u8 0, .nilf, .nilp, .int .i32 0, .int .i32 0]⟩ := by kernel_rfl
theorem ty127 : tyOf Try.prog 127 = some ⟨.struct [(12, 0), (12, 1), (120, 2), (121, 3), (5, 4), (5, 5), (122, 6), (123, 7), (104, 8), (124, 9), (125, 10)], 11, 48, some [.int .u64 0, .int .u64 0, .int .u32 0, .int .u8 0, .int .u8 0, .int .u8 0, .int .u8 0, .nilf, .nilp, .int .i32 0, .int .i32 0]⟩ := by kernel_rfl

variable (w : Ways)
theorem c1 : (cfg w).ty 1 = some ⟨.func, 1, 8, some [.nilf]⟩ := cfgP_tyd ty1
theorem k1 : kindOf (cfg w) 1 = .func := cfgP_kind ty1
theorem c2 : (cfg w).ty 2 = some ⟨.int .i64, 1, 8, some [.int .i64 0]⟩ := cfgP_tyd ty2
theorem k2 : kindOf (cfg w) 2 = .int .i64 := cfgP_kind ty2
theorem c3 : (cfg w).ty 3 = some ⟨.int .i64, 1, 8, some [.int .i64 0]⟩ := cfgP_tyd ty3
theorem k3 : kindOf (cfg w) 3 = .int .i64 := cfgP_kind ty3
theorem c4 : (cfg w).ty 4 = some ⟨.bool, 1, 1, some [.bool false]⟩ := cfgP_tyd ty4
theorem k4 : kindOf (cfg w) 4 = .bool := cfgP_kind ty4
theorem c5 : (cfg w).ty 5 = some ⟨.int .u8, 1, 1, some [.int .u8 0]⟩ := cfgP_tyd ty5
theorem k5 : kindOf (cfg w) 5 = .int .u8 := cfgP_kind ty5
theorem c6 : (cfg w).ty 6 = some ⟨.int .u8, 1, 1, some [.int .u8 0]⟩ := cfgP_tyd ty6
theorem k6 : kindOf (cfg w) 6 = .int .u8 := cfgP_kind ty6
theorem c7 : (cfg w).ty 7 = some ⟨.struct [(2, 0), (3, 1), (4, 2), (6, 3)], 4, 24, some [.int .i64 0, .int .i64 0, .bool false, .int .u8 0]⟩ := cfgP_tyd ty7
theorem k7 : kindOf (cfg w) 7 = .struct [(2, 0), (3, 1), (4, 2), (6, 3)] := cfgP_kind ty7
theorem c8 : (cfg w).ty 8 = some ⟨.struct [(2, 0), (3, 1), (4, 2), (6, 3)], 4, 24, some [.int .i64 0, .int .i64 0, .bool false, .int .u8 0]⟩ := cfgP_tyd ty8
theorem k8 : kindOf (cfg w) 8 = .struct [(2, 0), (3, 1), (4, 2), (6, 3)] := cfgP_kind ty8
theorem c9 : (cfg w).ty 9 = some ⟨.str, 1, 16, some [.str []]⟩ := cfgP_tyd ty9
theorem k9 : kindOf (cfg w) 9 = .str := cfgP_kind ty9
theorem c10 : (cfg w).ty 10 = some ⟨.str, 1, 16, some [.str []]⟩ := cfgP_tyd ty10
theorem k10 : kindOf (cfg w) 10 = .str := cfgP_kind ty10
theorem c11 : (cfg w).ty 11 = some ⟨.str, 1, 16, some [.str []]⟩ := cfgP_tyd ty11
theorem k11 : kindOf (cfg w) 11 = .str := cfgP_kind ty11
theorem c12 : (cfg w).ty 12 = some ⟨.int .u64, 1, 8, some [.int .u64 0]⟩ := cfgP_tyd ty12
theorem k12 : kindOf (cfg w) 12 = .int .u64 := cfgP_kind ty12
theorem c13 : (cfg w).ty 13 = some ⟨.struct [(9, 0), (12, 1)], 2, 24, some [.str [], .int .u64 0]⟩ := cfgP_tyd ty13
theorem k13 : kindOf (cfg w) 13 = .struct [(9, 0), (12, 1)] := cfgP_kind ty13
theorem c14 : (cfg w).ty 14 = some ⟨.struct [(9, 0), (12, 1)], 2, 24, some [.str [], .int .u64 0]⟩ := cfgP_tyd ty14
theorem k14 : kindOf (cfg w) 14 = .struct [(9, 0), (12, 1)] := cfgP_kind ty14
theorem c15 : (cfg w).ty 15 = some ⟨.ptr 115, 1, 8, some [.nilp]⟩ := cfgP_tyd ty15
theorem k15 : kindOf (cfg w) 15 = .ptr 115 := cfgP_kind ty15
theorem c16 : (cfg w).ty 16 = some ⟨.ptr 118, 1, 8, some [.nilp]⟩ := cfgP_tyd ty16
theorem k16 : kindOf (cfg w) 16 = .ptr 118 := cfgP_kind ty16
theorem c17 : (cfg w).ty 17 = some ⟨.ptr 127, 1, 8, some [.nilp]⟩ := cfgP_tyd ty17
theorem k17 : kindOf (cfg w) 17 = .ptr 127 := cfgP_kind ty17
theorem c18 : (cfg w).ty 18 = some ⟨.struct [(17, 0)], 1, 8, some [.nilp]⟩ := cfgP_tyd ty18
theorem k18 : kindOf (cfg w) 18 = .struct [(17, 0)] := cfgP_kind ty18
theorem c19 : (cfg w).ty 19 = some ⟨.struct [(17, 0)], 1, 8, some [.nilp]⟩ := cfgP_tyd ty19
theorem k19 : kindOf (cfg w) 19 = .struct [(17, 0)] := cfgP_kind ty19
theorem c20 : (cfg w).ty 20 = some ⟨.iface, 1, 16, some [.nili]⟩ := cfgP_tyd ty20
theorem k20 : kindOf (cfg w) 20 = .iface := cfgP_kind ty20
theorem c21 : (cfg w).ty 21 = some ⟨.int .i32, 1, 4, some [.int .i32 0]⟩ := cfgP_tyd ty21
theorem k21 : kindOf (cfg w) 21 = .int .i32 := cfgP_kind ty21
theorem c22 : (cfg w).ty 22 = some ⟨.int .u64, 1, 8, some [.int .u64 0]⟩ := cfgP_tyd ty22
theorem k22 : kindOf (cfg w) 22 = .int .u64 := cfgP_kind ty22
theorem c23 : (cfg w).ty 23 = some ⟨.slice 29, 1, 24, some [.nils]⟩ := cfgP_tyd ty23
theorem k23 : kindOf (cfg w) 23 = .slice 29 := cfgP_kind ty23
theorem c24 : (cfg w).ty 24 = some ⟨.func, 1, 8, some [.nilf]⟩ := cfgP_tyd ty24
theorem k24 : kindOf (cfg w) 24 = .func := cfgP_kind ty24
theorem c25 : (cfg w).ty 25 = some ⟨.func, 1, 8, some [.nilf]⟩ := cfgP_tyd ty25
theorem k25 : kindOf (cfg w) 25 = .func := cfgP_kind ty25
theorem c26 : (cfg w).ty 26 = some ⟨.struct [(3, 0), (3, 1), (9, 2)], 3, 32, some [.int .i64 0, .int .i64 0, .str []]⟩ := cfgP_tyd ty26
theorem k26 : kindOf (cfg w) 26 = .struct [(3, 0), (3, 1), (9, 2)] := cfgP_kind ty26
theorem c27 : (cfg w).ty 27 = some ⟨.struct [(3, 0), (3, 1), (9, 2)], 3, 32, some [.int .i64 0, .int .i64 0, .str []]⟩ := cfgP_tyd ty27
theorem k27 : kindOf (cfg w) 27 = .struct [(3, 0), (3, 1), (9, 2)] := cfgP_kind ty27
theorem c28 : (cfg w).ty 28 = some ⟨.struct [(3, 0), (27, 1), (3, 4), (3, 5), (3, 6)], 7, 64, some [.int .i64 0, .int .i64 0, .int .i64 0, .str [], .int .i64 0, .int .i64 0, .int .i64 0]⟩ := cfgP_tyd ty28
theorem k28 : kindOf (cfg w) 28 = .struct [(3, 0), (27, 1), (3, 4), (3, 5), (3, 6)] := cfgP_kind ty28
theorem c29 : (cfg w).ty 29 = some ⟨.struct [(3, 0), (27, 1), (3, 4), (3, 5), (3, 6)], 7, 64, some [.int .i64 0, .int .i64 0, .int .i64 0, .str [], .int .i64 0, .int .i64 0, .int .i64 0]⟩ := cfgP_tyd ty29
theorem k29 : kindOf (cfg w) 29 = .struct [(3, 0), (27, 1), (3, 4), (3, 5), (3, 6)] := cfgP_kind ty29
theorem c30 : (cfg w).ty 30 = some ⟨.func, 1, 8, some [.nilf]⟩ := cfgP_tyd ty30
theorem k30 : kindOf (cfg w) 30 = .func := cfgP_kind ty30
theorem c31 : (cfg w).ty 31 = some ⟨.func, 1, 8, some [.nilf]⟩ := cfgP_tyd ty31
theorem k31 : kindOf (cfg w) 31 = .func := cfgP_kind ty31
theorem c32 : (cfg w).ty 32 = some ⟨.func, 1, 8, some [.nilf]⟩ := cfgP_tyd ty32
theorem k32 : kindOf (cfg w) 32 = .func := cfgP_kind ty32
theorem c33 : (cfg w).ty 33 = some ⟨.func, 1, 8, some [.nilf]⟩ := cfgP_tyd ty33
theorem k33 : kindOf (cfg w) 33 = .func := cfgP_kind ty33
theorem c34 : (cfg w).ty 34 = some ⟨.func, 1, 8, some [.nilf]⟩ := cfgP_tyd ty34
theorem k34 : kindOf (cfg w) 34 = .func := cfgP_kind ty34
theorem c35 : (cfg w).ty 35 = some ⟨.func, 1, 8, some [.nilf]⟩ := cfgP_tyd ty35
theorem k35 : kindOf (cfg w) 35 = .func := cfgP_kind ty35
theorem c36 : (cfg w).ty 36 = some ⟨.slice 38, 1, 24, some [.nils]⟩ := cfgP_tyd ty36
theorem k36 : kindOf (cfg w) 36 = .slice 38 := cfgP_kind ty36
theorem c37 : (cfg w).ty 37 = some ⟨.struct [(9, 0), (4, 1), (9, 2), (3, 3), (3, 4), (3, 5), (36, 6)], 7, 88, some [.str [], .bool false, .str [], .int .i64 0, .int .i64 0, .int .i64 0, .nils]⟩ := cfgP_tyd ty37
theorem k37 : kindOf (cfg w) 37 = .struct [(9, 0), (4, 1), (9, 2), (3, 3), (3, 4), (3, 5), (36, 6)] := cfgP_kind ty37
theorem c38 : (cfg w).ty 38 = some ⟨.struct [(9, 0), (4, 1), (9, 2), (3, 3), (3, 4), (3, 5), (36, 6)], 7, 88, some [.str [], .bool false, .str [], .int .i64 0, .int .i64 0, .int .i64 0, .nils]⟩ := cfgP_tyd ty38
theorem k38 : kindOf (cfg w) 38 = .struct [(9, 0), (4, 1), (9, 2), (3, 3), (3, 4), (3, 5), (36, 6)] := cfgP_kind ty38
theorem c39 : (cfg w).ty 39 = some ⟨.slice 3, 1, 24, some [.nils]⟩ := cfgP_tyd ty39
theorem k39 : kindOf (cfg w) 39 = .slice 3 := cfgP_kind ty39
theorem c40 : (cfg w).ty 40 = some ⟨.func, 1, 8, some [.nilf]⟩ := cfgP_tyd ty40
theorem k40 : kindOf (cfg w) 40 = .func := cfgP_kind ty40
theorem c41 : (cfg w).ty 41 = some ⟨.slice 39, 1, 24, some [.nils]⟩ := cfgP_tyd ty41
theorem k41 : kindOf (cfg w) 41 = .slice 39 := cfgP_kind ty41
theorem c42 : (cfg w).ty 42 = some ⟨.func, 1, 8, some [.nilf]⟩ := cfgP_tyd ty42
theorem k42 : kindOf (cfg w) 42 = .func := cfgP_kind ty42
theorem c43 : (cfg w).ty 43 = some ⟨.func, 1, 8, some [.nilf]⟩ := cfgP_tyd ty43
theorem k43 : kindOf (cfg w) 43 = .func := cfgP_kind ty43
theorem c44 : (cfg w).ty 44 = some ⟨.func, 1, 8, some [.nilf]⟩ := cfgP_tyd ty44
theorem k44 : kindOf (cfg w) 44 = .func := cfgP_kind ty44
theorem c45 : (cfg w).ty 45 = some ⟨.func, 1, 8, some [.nilf]⟩ := cfgP_tyd ty45
theorem k45 : kindOf (cfg w) 45 = .func := cfgP_kind ty45
theorem c47 : (cfg w).ty 47 = some ⟨.func, 1, 8, some [.nilf]⟩ := cfgP_tyd ty47
theorem k47 : kindOf (cfg w) 47 = .func := cfgP_kind ty47
theorem c49 : (cfg w).ty 49 = some ⟨.func, 1, 8, some [.nilf]⟩ := cfgP_tyd ty49
theorem k49 : kindOf (cfg w) 49 = .func := cfgP_kind ty49
theorem c50 : (cfg w).ty 50 = some ⟨.func, 1, 8, some [.nilf]⟩ := cfgP_tyd ty50
theorem k50 : kindOf (cfg w) 50 = .func := cfgP_kind ty50
theorem c52 : (cfg w).ty 52 = some ⟨.func, 1, 8, some [.nilf]⟩ := cfgP_tyd ty52
theorem k52 : kindOf (cfg w) 52 = .func := cfgP_kind ty52
theorem c53 : (cfg w).ty 53 = some ⟨.func, 1, 8, some [.nilf]⟩ := cfgP_tyd ty53
theorem k53 : kindOf (cfg w) 53 = .func := cfgP_kind ty53
theorem c54 : (cfg w).ty 54 = some ⟨.func, 1, 8, some [.nilf]⟩ := cfgP_tyd ty54
theorem k54 : kindOf (cfg w) 54 = .func := cfgP_kind ty54
theorem c55 : (cfg w).ty 55 = some ⟨.func, 1, 8, some [.nilf]⟩ := cfgP_tyd ty55
theorem k55 : kindOf (cfg w) 55 = .func := cfgP_kind ty55
theorem c56 : (cfg w).ty 56 = some ⟨.func, 1, 8, some [.nilf]⟩ := cfgP_tyd ty56
theorem k56 : kindOf (cfg w) 56 = .func := cfgP_kind ty56
theorem c57 : (cfg w).ty 57 = some ⟨.func, 1, 8, some [.nilf]⟩ := cfgP_tyd ty57
theorem k57 : kindOf (cfg w) 57 = .func := cfgP_kind ty57
theorem c58 : (cfg w).ty 58 = some ⟨.func, 1, 8, some [.nilf]⟩ := cfgP_tyd ty58
theorem k58 : kindOf (cfg w) 58 = .func := cfgP_kind ty58
theorem c59 : (cfg w).ty 59 = some ⟨.func, 1, 8, some [.nilf]⟩ := cfgP_tyd ty59
theorem k59 : kindOf (cfg w) 59 = .func := cfgP_kind ty59
theorem c60 : (cfg w).ty 60 = some ⟨.func, 1, 8, some [.nilf]⟩ := cfgP_tyd ty60
theorem k60 : kindOf (cfg w) 60 = .func := cfgP_kind ty60
theorem c61 : (cfg w).ty 61 = some ⟨.int .u16, 1, 2, some [.int .u16 0]⟩ := cfgP_tyd ty61
theorem k61 : kindOf (cfg w) 61 = .int .u16 := cfgP_kind ty61
theorem c62 : (cfg w).ty 62 = some ⟨.func, 1, 8, some [.nilf]⟩ := cfgP_tyd ty62
theorem k62 : kindOf (cfg w) 62 = .func := cfgP_kind ty62
theorem c63 : (cfg w).ty 63 = some ⟨.func, 1, 8, some [.nilf]⟩ := cfgP_tyd ty63
theorem k63 : kindOf (cfg w) 63 = .func := cfgP_kind ty63
theorem c64 : (cfg w).ty 64 = some ⟨.func, 1, 8, some [.nilf]⟩ := cfgP_tyd ty64
theorem k64 : kindOf (cfg w) 64 = .func := cfgP_kind ty64
theorem c65 : (cfg w).ty 65 = some ⟨.func, 1, 8, some [.nilf]⟩ := cfgP_tyd ty65
theorem k65 : kindOf (cfg w) 65 = .func := cfgP_kind ty65
theorem c66 : (cfg w).ty 66 = some ⟨.func, 1, 8, some [.nilf]⟩ := cfgP_tyd ty66
theorem k66 : kindOf (cfg w) 66 = .func := cfgP_kind ty66
theorem c67 : (cfg w).ty 67 = some ⟨.array 16 22, 16, 128, some [.int .u64 0, .int .u64 0, .int .u64 0, .int .u64 0, .int .u64 0, .int .u64 0, .int .u64 0, .int .u64 0, .int .u64 0, .int .u64 0, .int .u64 0, .int .u64 0, .int .u64 0, .int .u64 0, .int .u64 0, .int .u64 0]⟩ := cfgP_tyd ty67
theorem k67 : kindOf (cfg w) 67 = .array 16 22 := cfgP_kind ty67
theorem c68 : (cfg w).ty 68 = some ⟨.func, 1, 8, some [.nilf]⟩ := cfgP_tyd ty68
theorem k68 : kindOf (cfg w) 68 = .func := cfgP_kind ty68
theorem c69 : (cfg w).ty 69 = some ⟨.array 10 9, 10, 160, some [.str [], .str [], .str [], .str [], .str [], .str [], .str [], .str [], .str [], .str []]⟩ := cfgP_tyd ty69
theorem k69 : kindOf (cfg w) 69 = .array 10 9 := cfgP_kind ty69
theorem c70 : (cfg w).ty 70 = some ⟨.func, 1, 8, some [.nilf]⟩ := cfgP_tyd ty70
theorem k70 : kindOf (cfg w) 70 = .func := cfgP_kind ty70
theorem c71 : (cfg w).ty 71 = some ⟨.int .u64, 1, 8, some [.int .u64 0]⟩ := cfgP_tyd ty71
theorem k71 : kindOf (cfg w) 71 = .int .u64 := cfgP_kind ty71
theorem c72 : (cfg w).ty 72 = some ⟨.array 4 9, 4, 64, some [.str [], .str [], .str [], .str []]⟩ := cfgP_tyd ty72
theorem k72 : kindOf (cfg w) 72 = .array 4 9 := cfgP_kind ty72
theorem c73 : (cfg w).ty 73 = some ⟨.func, 1, 8, some [.nilf]⟩ := cfgP_tyd ty73
theorem k73 : kindOf (cfg w) 73 = .func := cfgP_kind ty73
theorem c74 : (cfg w).ty 74 = some ⟨.slice 9, 1, 24, some [.nils]⟩ := cfgP_tyd ty74
theorem k74 : kindOf (cfg w) 74 = .slice 9 := cfgP_kind ty74
theorem c75 : (cfg w).ty 75 = some ⟨.func, 1, 8, some [.nilf]⟩ := cfgP_tyd ty75
theorem k75 : kindOf (cfg w) 75 = .func := cfgP_kind ty75
theorem c76 : (cfg w).ty 76 = some ⟨.func, 1, 8, some [.nilf]⟩ := cfgP_tyd ty76
theorem k76 : kindOf (cfg w) 76 = .func := cfgP_kind ty76
theorem c77 : (cfg w).ty 77 = some ⟨.ptr 80, 1, 8, some [.nilp]⟩ := cfgP_tyd ty77
theorem k77 : kindOf (cfg w) 77 = .ptr 80 := cfgP_kind ty77
theorem c78 : (cfg w).ty 78 = some ⟨.slice 5, 1, 24, some [.nils]⟩ := cfgP_tyd ty78
theorem k78 : kindOf (cfg w) 78 = .slice 5 := cfgP_kind ty78
theorem c79 : (cfg w).ty 79 = some ⟨.struct [(77, 0), (78, 1)], 2, 32, some [.nilp, .nils]⟩ := cfgP_tyd ty79
theorem k79 : kindOf (cfg w) 79 = .struct [(77, 0), (78, 1)] := cfgP_kind ty79
theorem c80 : (cfg w).ty 80 = some ⟨.struct [(77, 0), (78, 1)], 2, 32, some [.nilp, .nils]⟩ := cfgP_tyd ty80
theorem k80 : kindOf (cfg w) 80 = .struct [(77, 0), (78, 1)] := cfgP_kind ty80
theorem c81 : (cfg w).ty 81 = some ⟨.slice 22, 1, 24, some [.nils]⟩ := cfgP_tyd ty81
theorem k81 : kindOf (cfg w) 81 = .slice 22 := cfgP_kind ty81
theorem c82 : (cfg w).ty 82 = some ⟨.iface, 1, 16, some [.nili]⟩ := cfgP_tyd ty82
theorem k82 : kindOf (cfg w) 82 = .iface := cfgP_kind ty82
theorem c83 : (cfg w).ty 83 = some ⟨.iface, 1, 16, some [.nili]⟩ := cfgP_tyd ty83
theorem k83 : kindOf (cfg w) 83 = .iface := cfgP_kind ty83
theorem c85 : (cfg w).ty 85 = some ⟨.func, 1, 8, some [.nilf]⟩ := cfgP_tyd ty85
theorem k85 : kindOf (cfg w) 85 = .func := cfgP_kind ty85
theorem c86 : (cfg w).ty 86 = some ⟨.func, 1, 8, some [.nilf]⟩ := cfgP_tyd ty86
theorem k86 : kindOf (cfg w) 86 = .func := cfgP_kind ty86
theorem c87 : (cfg w).ty 87 = some ⟨.func, 1, 8, some [.nilf]⟩ := cfgP_tyd ty87
theorem k87 : kindOf (cfg w) 87 = .func := cfgP_kind ty87
theorem c88 : (cfg w).ty 88 = some ⟨.func, 1, 8, some [.nilf]⟩ := cfgP_tyd ty88
theorem k88 : kindOf (cfg w) 88 = .func := cfgP_kind ty88
theorem c89 : (cfg w).ty 89 = some ⟨.func, 1, 8, some [.nilf]⟩ := cfgP_tyd ty89
theorem k89 : kindOf (cfg w) 89 = .func := cfgP_kind ty89
theorem c90 : (cfg w).ty 90 = some ⟨.func, 1, 8, some [.nilf]⟩ := cfgP_tyd ty90
theorem k90 : kindOf (cfg w) 90 = .func := cfgP_kind ty90
theorem c91 : (cfg w).ty 91 = some ⟨.func, 1, 8, some [.nilf]⟩ := cfgP_tyd ty91
theorem k91 : kindOf (cfg w) 91 = .func := cfgP_kind ty91
theorem c92 : (cfg w).ty 92 = some ⟨.func, 1, 8, some [.nilf]⟩ := cfgP_tyd ty92
theorem k92 : kindOf (cfg w) 92 = .func := cfgP_kind ty92
theorem c93 : (cfg w).ty 93 = some ⟨.func, 1, 8, some [.nilf]⟩ := cfgP_tyd ty93
theorem k93 : kindOf (cfg w) 93 = .func := cfgP_kind ty93
theorem c94 : (cfg w).ty 94 = some ⟨.func, 1, 8, some [.nilf]⟩ := cfgP_tyd ty94
theorem k94 : kindOf (cfg w) 94 = .func := cfgP_kind ty94
theorem c95 : (cfg w).ty 95 = some ⟨.func, 1, 8, some [.nilf]⟩ := cfgP_tyd ty95
theorem k95 : kindOf (cfg w) 95 = .func := cfgP_kind ty95
theorem c96 : (cfg w).ty 96 = some ⟨.func, 1, 8, some [.nilf]⟩ := cfgP_tyd ty96
theorem k96 : kindOf (cfg w) 96 = .func := cfgP_kind ty96
theorem c97 : (cfg w).ty 97 = some ⟨.func, 1, 8, some [.nilf]⟩ := cfgP_tyd ty97
theorem k97 : kindOf (cfg w) 97 = .func := cfgP_kind ty97
theorem c98 : (cfg w).ty 98 = some ⟨.func, 1, 8, some [.nilf]⟩ := cfgP_tyd ty98
theorem k98 : kindOf (cfg w) 98 = .func := cfgP_kind ty98
theorem c99 : (cfg w).ty 99 = some ⟨.func, 1, 8, some [.nilf]⟩ := cfgP_tyd ty99
theorem k99 : kindOf (cfg w) 99 = .func := cfgP_kind ty99
theorem c100 : (cfg w).ty 100 = some ⟨.func, 1, 8, some [.nilf]⟩ := cfgP_tyd ty100
theorem k100 : kindOf (cfg w) 100 = .func := cfgP_kind ty100
theorem c101 : (cfg w).ty 101 = some ⟨.func, 1, 8, some [.nilf]⟩ := cfgP_tyd ty101
theorem k101 : kindOf (cfg w) 101 = .func := cfgP_kind ty101
theorem c102 : (cfg w).ty 102 = some ⟨.func, 1, 8, some [.nilf]⟩ := cfgP_tyd ty102
theorem k102 : kindOf (cfg w) 102 = .func := cfgP_kind ty102
theorem c103 : (cfg w).ty 103 = some ⟨.func, 1, 8, some [.nilf]⟩ := cfgP_tyd ty103
theorem k103 : kindOf (cfg w) 103 = .func := cfgP_kind ty103
theorem c104 : (cfg w).ty 104 = some ⟨.ptr 5, 1, 8, some [.nilp]⟩ := cfgP_tyd ty104
theorem k104 : kindOf (cfg w) 104 = .ptr 5 := cfgP_kind ty104
theorem c105 : (cfg w).ty 105 = some ⟨.func, 1, 8, some [.nilf]⟩ := cfgP_tyd ty105
theorem k105 : kindOf (cfg w) 105 = .func := cfgP_kind ty105
theorem c106 : (cfg w).ty 106 = some ⟨.func, 1, 8, some [.nilf]⟩ := cfgP_tyd ty106
theorem k106 : kindOf (cfg w) 106 = .func := cfgP_kind ty106
theorem c107 : (cfg w).ty 107 = some ⟨.func, 1, 8, some [.nilf]⟩ := cfgP_tyd ty107
theorem k107 : kindOf (cfg w) 107 = .func := cfgP_kind ty107
theorem c108 : (cfg w).ty 108 = some ⟨.func, 1, 8, some [.nilf]⟩ := cfgP_tyd ty108
theorem k108 : kindOf (cfg w) 108 = .func := cfgP_kind ty108
theorem c109 : (cfg w).ty 109 = some ⟨.func, 1, 8, some [.nilf]⟩ := cfgP_tyd ty109
theorem k109 : kindOf (cfg w) 109 = .func := cfgP_kind ty109
theorem c111 : (cfg w).ty 111 = some ⟨.func, 1, 8, some [.nilf]⟩ := cfgP_tyd ty111
theorem k111 : kindOf (cfg w) 111 = .func := cfgP_kind ty111
theorem c112 : (cfg w).ty 112 = some ⟨.func, 1, 8, some [.nilf]⟩ := cfgP_tyd ty112
theorem k112 : kindOf (cfg w) 112 = .func := cfgP_kind ty112
theorem c113 : (cfg w).ty 113 = some ⟨.func, 1, 8, some [.nilf]⟩ := cfgP_tyd ty113
theorem k113 : kindOf (cfg w) 113 = .func := cfgP_kind ty113
theorem c114 : (cfg w).ty 114 = some ⟨.struct [(17, 0), (17, 1), (17, 2), (9, 3)], 4, 40, some [.nilp, .nilp, .nilp, .str []]⟩ := cfgP_tyd ty114
theorem k114 : kindOf (cfg w) 114 = .struct [(17, 0), (17, 1), (17, 2), (9, 3)] := cfgP_kind ty114
theorem c115 : (cfg w).ty 115 = some ⟨.struct [(17, 0), (17, 1), (17, 2), (9, 3)], 4, 40, some [.nilp, .nilp, .nilp, .str []]⟩ := cfgP_tyd ty115
theorem k115 : kindOf (cfg w) 115 = .struct [(17, 0), (17, 1), (17, 2), (9, 3)] := cfgP_kind ty115
theorem c116 : (cfg w).ty 116 = some ⟨.array 0 16, 0, 0, some []⟩ := cfgP_tyd ty116
theorem k116 : kindOf (cfg w) 116 = .array 0 16 := cfgP_kind ty116
theorem c117 : (cfg w).ty 117 = some ⟨.struct [(116, 0)], 0, 0, some []⟩ := cfgP_tyd ty117
theorem k117 : kindOf (cfg w) 117 = .struct [(116, 0)] := cfgP_kind ty117
theorem c118 : (cfg w).ty 118 = some ⟨.struct [(116, 0)], 0, 0, some []⟩ := cfgP_tyd ty118
theorem k118 : kindOf (cfg w) 118 = .struct [(116, 0)] := cfgP_kind ty118
theorem c119 : (cfg w).ty 119 = some ⟨.func, 1, 8, some [.nilf]⟩ := cfgP_tyd ty119
theorem k119 : kindOf (cfg w) 119 = .func := cfgP_kind ty119
theorem c120 : (cfg w).ty 120 = some ⟨.int .u32, 1, 4, some [.int .u32 0]⟩ := cfgP_tyd ty120
theorem k120 : kindOf (cfg w) 120 = .int .u32 := cfgP_kind ty120
theorem c121 : (cfg w).ty 121 = some ⟨.int .u8, 1, 1, some [.int .u8 0]⟩ := cfgP_tyd ty121
theorem k121 : kindOf (cfg w) 121 = .int .u8 := cfgP_kind ty121
theorem c122 : (cfg w).ty 122 = some ⟨.int .u8, 1, 1, some [.int .u8 0]⟩ := cfgP_tyd ty122
theorem k122 : kindOf (cfg w) 122 = .int .u8 := cfgP_kind ty122
theorem c123 : (cfg w).ty 123 = some ⟨.func, 1, 8, some [.nilf]⟩ := cfgP_tyd ty123
theorem k123 : kindOf (cfg w) 123 = .func := cfgP_kind ty123
theorem c124 : (cfg w).ty 124 = some ⟨.int .i32, 1, 4, some [.int .i32 0]⟩ := cfgP_tyd ty124
theorem k124 : kindOf (cfg w) 124 = .int .i32 := cfgP_kind ty124
theorem c125 : (cfg w).ty 125 = some ⟨.int .i32, 1, 4, some [.int .i32 0]⟩ := cfgP_tyd ty125
theorem k125 : kindOf (cfg w) 125 = .int .i32 := cfgP_kind ty125
theorem c126 : (cfg w).ty 126 = some ⟨.struct [(12, 0), (12, 1), (120, 2), (121, 3), (5, 4), (5, 5), (122, 6), (123, 7), (104, 8), (124, 9), (125, 10)], 11, 48, some [.int .u64 0, .int .u64 0, .int .u32 0, .int .u8 0, .int .u8 0, .int .u8 0, .int .u8 0, .nilf, .nilp, .int .i32 0, .int .i32 0]⟩ := cfgP_tyd ty126
theorem k126 : kindOf (cfg w) 126 = .struct [(12, 0), (12, 1), (120, 2), (121, 3), (5, 4), (5, 5), (122, 6), (123, 7), (104, 8), (124, 9), (125, 10)] := cfgP_kind ty126
theorem c127 : (cfg w).ty 127 = some ⟨.struct [(12, 0), (12, 1), (120, 2), (121, 3), (5, 4), (5, 5), (122, 6), (123, 7), (104, 8), (124, 9), (125, 10)], 11, 48, some [.int .u64 0, .int .u64 0, .int .u32 0, .int .u8 0, .int .u8 0, .int .u8 0, .int .u8 0, .nilf, .nilp, .int .i32 0, .int .i32 0]⟩ := cfgP_tyd ty127
theorem k127 : kindOf (cfg w) 127 = .struct [(12, 0), (12, 1), (120, 2), (121, 3), (5, 4), (5, 5), (122, 6), (123, 7), (104, 8), (124, 9), (125, 10)] := cfgP_kind ty127
theorem fn3 : (cfg w).fn 3 = some Try.f3 := cfgP_fnd Try.func3 (by decide +kernel)
theorem fn4 : (cfg w).fn 4 = some Try.f4 := cfgP_fnd Try.func4 (by decide +kernel)
theorem fn5 : (cfg w).fn 5 = some Try.f5 := cfgP_fnd Try.func5 (by decide +kernel)
theorem fn6 : (cfg w).fn 6 = some Try.f6 := cfgP_fnd Try.func6 (by decide +kernel)
theorem fn7 : (cfg w).fn 7 = some Try.f7 := cfgP_fnd Try.func7 (by decide +kernel)
theorem fn8 : (cfg w).fn 8 = some Try.f8 := cfgP_fnd Try.func8 (by decide +kernel)
theorem fn9 : (cfg w).fn 9 = some Try.f9 := cfgP_fnd Try.func9 (by decide +kernel)
theorem fn10 : (cfg w).fn 10 = some Try.f10 := cfgP_fnd Try.func10 (by decide +kernel)
theorem fn11 : (cfg w).fn 11 = some Try.f11 := cfgP_fnd Try.func11 (by decide +kernel)
theorem fn12 : (cfg w).fn 12 = some Try.f12 := cfgP_fnd Try.func12 (by decide +kernel)
theorem fn13 : (cfg w).fn 13 = some Try.f13 := cfgP_fnd Try.func13 (by decide +kernel)
theorem fn14 : (cfg w).fn 14 = some Try.f14 := cfgP_fnd Try.func14 (by decide +kernel)
theorem fn15 : (cfg w).fn 15 = some Try.f15 := cfgP_fnd Try.func15 (by decide +kernel)
theorem fn16 : (cfg w).fn 16 = some Try.f16 := cfgP_fnd Try.func16 (by decide +kernel)
theorem fn17 : (cfg w).fn 17 = some Try.f17 := cfgP_fnd Try.func17 (by decide +kernel)
theorem fn18 : (cfg w).fn 18 = some Try.f18 := cfgP_fnd Try.func18 (by decide +kernel)
theorem fn19 : (cfg w).fn 19 = some Try.f19 := cfgP_fnd Try.func19 (by decide +kernel)
theorem fn20 : (cfg w).fn 20 = some Try.f20 := cfgP_fnd Try.func20 (by decide +kernel)
theorem fn21 : (cfg w).fn 21 = some Try.f21 := cfgP_fnd Try.func21 (by decide +kernel)
theorem fn22 : (cfg w).fn 22 = some Try.f22 := cfgP_fnd Try.func22 (by decide +kernel)
theorem fn23 : (cfg w).fn 23 = some Try.f23 := cfgP_fnd Try.func23 (by decide +kernel)
theorem fn24 : (cfg w).fn 24 = some Try.f24 := cfgP_fnd Try.func24 (by decide +kernel)
theorem fn25 : (cfg w).fn 25 = some Try.f25 := cfgP_fnd Try.func25 (by decide +kernel)
theorem fn26 : (cfg w).fn 26 = some Try.f26 := cfgP_fnd Try.func26 (by decide +kernel)
theorem fn27 : (cfg w).fn 27 = some Try.f27 := cfgP_fnd Try.func27 (by decide +kernel)
theorem fn28 : (cfg w).fn 28 = some Try.f28 := cfgP_fnd Try.func28 (by decide +kernel)
theorem fn29 : (cfg w).fn 29 = some Try.f29 := cfgP_fnd Try.func29 (by decide +kernel)
theorem fn30 : (cfg w).fn 30 = some Try.f30 := cfgP_fnd Try.func30 (by decide +kernel)
theorem fn31 : (cfg w).fn 31 = some Try.f31 := cfgP_fnd Try.func31 (by decide +kernel)
theorem fn32 : (cfg w).fn 32 = some Try.f32 := cfgP_fnd Try.func32 (by decide +kernel)
theorem fn33 : (cfg w).fn 33 = some Try.f33 := cfgP_fnd Try.func33 (by decide +kernel)
theorem fn34 : (cfg w).fn 34 = some Try.f34 := cfgP_fnd Try.func34 (by decide +kernel)
theorem fn35 : (cfg w).fn 35 = some Try.f35 := cfgP_fnd Try.func35 (by decide +kernel)
theorem fn36 : (cfg w).fn 36 = some Try.f36 := cfgP_fnd Try.func36 (by decide +kernel)
theorem fn37 : (cfg w).fn 37 = some Try.f37 := cfgP_fnd Try.func37 (by decide +kernel)
theorem fn38 : (cfg w).fn 38 = some Try.f38 := cfgP_fnd Try.func38 (by decide +kernel)
theorem fn39 : (cfg w).fn 39 = some Try.f39 := cfgP_fnd Try.func39 (by decide +kernel)
theorem fn40 : (cfg w).fn 40 = some Try.f40 := cfgP_fnd Try.func40 (by decide +kernel)
theorem fn41 : (cfg w).fn 41 = some Try.f41 := cfgP_fnd Try.func41 (by decide +kernel)
theorem fn42 : (cfg w).fn 42 = some Try.f42 := cfgP_fnd Try.func42 (by decide +kernel)
theorem fn43 : (cfg w).fn 43 = some Try.f43 := cfgP_fnd Try.func43 (by decide +kernel)
theorem fn44 : (cfg w).fn 44 = some Try.f44 := cfgP_fnd Try.func44 (by decide +kernel)
theorem fn45 : (cfg w).fn 45 = some Try.f45 := cfgP_fnd Try.func45 (by decide +kernel)
theorem fn46 : (cfg w).fn 46 = some Try.f46 := cfgP_fnd Try.func46 (by decide +kernel)
theorem fn47 : (cfg w).fn 47 = some Try.f47 := cfgP_fnd Try.func47 (by decide +kernel)
theorem fn48 : (cfg w).fn 48 = some Try.f48 := cfgP_fnd Try.func48 (by decide +kernel)
theorem fn49 : (cfg w).fn 49 = some Try.f49 := cfgP_fnd Try.func49 (by decide +kernel)
theorem fn50 : (cfg w).fn 50 = some Try.f50 := cfgP_fnd Try.func50 (by decide +kernel)
theorem fn51 : (cfg w).fn 51 = some Try.f51 := cfgP_fnd Try.func51 (by decide +kernel)
theorem fn52 : (cfg w).fn 52 = some Try.f52 := cfgP_fnd Try.func52 (by decide +kernel)
theorem fn53 : (cfg w).fn 53 = some Try.f53 := cfgP_fnd Try.func53 (by decide +kernel)
theorem fn54 : (cfg w).fn 54 = some Try.f54 := cfgP_fnd Try.func54 (by decide +kernel)
theorem fn55 : (cfg w).fn 55 = some Try.f55 := cfgP_fnd Try.func55 (by decide +kernel)
theorem fn56 : (cfg w).fn 56 = some Try.f56 := cfgP_fnd Try.func56 (by decide +kernel)
theorem fn57 : (cfg w).fn 57 = some Try.f57 := cfgP_fnd Try.func57 (by decide +kernel)
theorem fn58 : (cfg w).fn 58 = some Try.f58 := cfgP_fnd Try.func58 (by decide +kernel)
theorem fn59 : (cfg w).fn 59 = some Try.f59 := cfgP_fnd Try.func59 (by decide +kernel)
theorem fn60 : (cfg w).fn 60 = some Try.f60 := cfgP_fnd Try.func60 (by decide +kernel)
theorem fn61 : (cfg w).fn 61 = some Try.f61 := cfgP_fnd Try.func61 (by decide +kernel)
theorem fn62 : (cfg w).fn 62 = some Try.f62 := cfgP_fnd Try.func62 (by decide +kernel)
theorem fn63 : (cfg w).fn 63 = some Try.f63 := cfgP_fnd Try.func63 (by decide +kernel)
theorem fn64 : (cfg w).fn 64 = some Try.f64 := cfgP_fnd Try.func64 (by decide +kernel)
theorem fn65 : (cfg w).fn 65 = some Try.f65 := cfgP_fnd Try.func65 (by decide +kernel)
theorem fn66 : (cfg w).fn 66 = some Try.f66 := cfgP_fnd Try.func66 (by decide +kernel)
theorem fn67 : (cfg w).fn 67 = some Try.f67 := cfgP_fnd Try.func67 (by decide +kernel)
theorem fn68 : (cfg w).fn 68 = some Try.f68 := cfgP_fnd Try.func68 (by decide +kernel)
theorem fn69 : (cfg w).fn 69 = some Try.f69 := cfgP_fnd Try.func69 (by decide +kernel)
theorem fn70 : (cfg w).fn 70 = some Try.f70 := cfgP_fnd Try.func70 (by decide +kernel)
theorem fn71 : (cfg w).fn 71 = some Try.f71 := cfgP_fnd Try.func71 (by decide +kernel)
theorem fn72 : (cfg w).fn 72 = some Try.f72 := cfgP_fnd Try.func72 (by decide +kernel)
theorem fn73 : (cfg w).fn 73 = some Try.f73 := cfgP_fnd Try.func73 (by decide +kernel)
theorem fn74 : (cfg w).fn 74 = some Try.f74 := cfgP_fnd Try.func74 (by decide +kernel)
theorem fn75 : (cfg w).fn 75 = some Try.f75 := cfgP_fnd Try.func75 (by decide +kernel)
theorem fn76 : (cfg w).fn 76 = some Try.f76 := cfgP_fnd Try.func76 (by decide +kernel)
theorem fn77 : (cfg w).fn 77 = some Try.f77 := cfgP_fnd Try.func77 (by decide +kernel)
theorem fn78 : (cfg w).fn 78 = some Try.f78 := cfgP_fnd Try.func78 (by decide +kernel)
theorem fn79 : (cfg w).fn 79 = some Try.f79 := cfgP_fnd Try.func79 (by decide +kernel)
theorem fn80 : (cfg w).fn 80 = some Try.f80 := cfgP_fnd Try.func80 (by decide +kernel)
theorem fn81 : (cfg w).fn 81 = some Try.f81 := cfgP_fnd Try.func81 (by decide +kernel)
theorem fn82 : (cfg w).fn 82 = some Try.f82 := cfgP_fnd Try.func82 (by decide +kernel)
theorem fn83 : (cfg w).fn 83 = some Try.f83 := cfgP_fnd Try.func83 (by decide +kernel)
theorem fn84 : (cfg w).fn 84 = some Try.f84 := cfgP_fnd Try.func84 (by decide +kernel)
theorem fn85 : (cfg w).fn 85 = some Try.f85 := cfgP_fnd Try.func85 (by decide +kernel)
theorem fn86 : (cfg w).fn 86 = some Try.f86 := cfgP_fnd Try.func86 (by decide +kernel)
theorem fn87 : (cfg w).fn 87 = some Try.f87 := cfgP_fnd Try.func87 (by decide +kernel)
theorem fn88 : (cfg w).fn 88 = some Try.f88 := cfgP_fnd Try.func88 (by decide +kernel)
theorem fn89 : (cfg w).fn 89 = some Try.f89 := cfgP_fnd Try.func89 (by decide +kernel)
theorem fn90 : (cfg w).fn 90 = some Try.f90 := cfgP_fnd Try.func90 (by decide +kernel)
theorem fn91 : (cfg w).fn 91 = some Try.f91 := cfgP_fnd Try.func91 (by decide +kernel)
theorem fn92 : (cfg w).fn 92 = some Try.f92 := cfgP_fnd Try.func92 (by decide +kernel)
theorem fn93 : (cfg w).fn 93 = some Try.f93 := cfgP_fnd Try.func93 (by decide +kernel)
theorem fn94 : (cfg w).fn 94 = some Try.f94 := cfgP_fnd Try.func94 (by decide +kernel)
theorem fn95 : (cfg w).fn 95 = some Try.f95 := cfgP_fnd Try.func95 (by decide +kernel)
theorem fn96 : (cfg w).fn 96 = some Try.f96 := cfgP_fnd Try.func96 (by decide +kernel)
theorem fn97 : (cfg w).fn 97 = some Try.f97 := cfgP_fnd Try.func97 (by decide +kernel)
theorem fn98 : (cfg w).fn 98 = some Try.f98 := cfgP_fnd Try.func98 (by decide +kernel)
theorem fn99 : (cfg w).fn 99 = some Try.f99 := cfgP_fnd Try.func99 (by decide +kernel)
theorem fn100 : (cfg w).fn 100 = some Try.f100 := cfgP_fnd Try.func100 (by decide +kernel)
theorem fn101 : (cfg w).fn 101 = some Try.f101 := cfgP_fnd Try.func101 (by decide +kernel)
structure Std : Prop where
  m3 : w.mode 3 = .pure
  e3 : w.ext 3 = none
  m4 : w.mode 4 = .pure
  e4 : w.ext 4 = none
  m6 : w.mode 6 = .pure
  e6 : w.ext 6 = none
  m7 : w.mode 7 = .pure
  e7 : w.ext 7 = none
  m8 : w.mode 8 = .pure
  e8 : w.ext 8 = none
  m9 : w.mode 9 = .pure
  e9 : w.ext 9 = none
  m10 : w.mode 10 = .pure
  e10 : w.ext 10 = none
  m11 : w.mode 11 = .pure
  e11 : w.ext 11 = none
  m12 : w.mode 12 = .pure
  e12 : w.ext 12 = none
  m13 : w.mode 13 = .pure
  e13 : w.ext 13 = none
  m14 : w.mode 14 = .pure
  e14 : w.ext 14 = none
  m5 : w.mode 5 = .pure
  e5 : w.ext 5 = none
  m23 : w.mode 23 = .pure
  e23 : w.ext 23 = none
  m24 : w.mode 24 = .pure
  e24 : w.ext 24 = none
  m15 : w.mode 15 = .pure
  e15 : w.ext 15 = none
  m16 : w.mode 16 = .pure
  e16 : w.ext 16 = none
  m17 : w.mode 17 = .pure
  e17 : w.ext 17 = none
  m18 : w.mode 18 = .pure
  e18 : w.ext 18 = none
  m19 : w.mode 19 = .pure
  e19 : w.ext 19 = none
  m20 : w.mode 20 = .pure
  e20 : w.ext 20 = none
  m21 : w.mode 21 = .pure
  e21 : w.ext 21 = none
  m22 : w.mode 22 = .pure
  e22 : w.ext 22 = none
  m25 : w.mode 25 = .pure
  e25 : w.ext 25 = none
  m26 : w.mode 26 = .pure
  e26 : w.ext 26 = none
  m27 : w.mode 27 = .pure
  e27 : w.ext 27 = none
  m28 : w.mode 28 = .pure
  e28 : w.ext 28 = none
  m29 : w.mode 29 = .pure
  e29 : w.ext 29 = none
  m30 : w.mode 30 = .pure
  e30 : w.ext 30 = none
  m31 : w.mode 31 = .pure
  e31 : w.ext 31 = none
  m32 : w.mode 32 = .pure
  e32 : w.ext 32 = none
  m33 : w.mode 33 = .pure
  e33 : w.ext 33 = none
  m34 : w.mode 34 = .pure
  e34 : w.ext 34 = none
  m35 : w.mode 35 = .pure
  e35 : w.ext 35 = none
  m36 : w.mode 36 = .pure
  e36 : w.ext 36 = none
  m39 : w.mode 39 = .pure
  e39 : w.ext 39 = none
  m40 : w.mode 40 = .pure
  e40 : w.ext 40 = none
  m42 : w.mode 42 = .pure
  e42 : w.ext 42 = none
  m44 : w.mode 44 = .pure
  e44 : w.ext 44 = none
  m45 : w.mode 45 = .pure
  e45 : w.ext 45 = none
  m46 : w.mode 46 = .pure
  e46 : w.ext 46 = none
  m47 : w.mode 47 = .pure
  e47 : w.ext 47 = none
  m48 : w.mode 48 = .pure
  e48 : w.ext 48 = none
  m49 : w.mode 49 = .pure
  e49 : w.ext 49 = none
  m50 : w.mode 50 = .pure
  e50 : w.ext 50 = none
  m51 : w.mode 51 = .pure
  e51 : w.ext 51 = none
  m52 : w.mode 52 = .pure
  e52 : w.ext 52 = none
  m53 : w.mode 53 = .pure
  e53 : w.ext 53 = none
  m54 : w.mode 54 = .pure
  e54 : w.ext 54 = none
  m55 : w.mode 55 = .pure
  e55 : w.ext 55 = none
  m56 : w.mode 56 = .pure
  e56 : w.ext 56 = none
  m57 : w.mode 57 = .pure
  e57 : w.ext 57 = none
  m58 : w.mode 58 = .pure
  e58 : w.ext 58 = none
  m59 : w.mode 59 = .pure
  e59 : w.ext 59 = none
  m60 : w.mode 60 = .pure
  e60 : w.ext 60 = none
  m61 : w.mode 61 = .pure
  e61 : w.ext 61 = none
  m62 : w.mode 62 = .pure
  e62 : w.ext 62 = none
  m63 : w.mode 63 = .pure
  e63 : w.ext 63 = none
  m64 : w.mode 64 = .pure
  e64 : w.ext 64 = none
  m65 : w.mode 65 = .pure
  e65 : w.ext 65 = none
  m66 : w.mode 66 = .pure
  e66 : w.ext 66 = none
  m69 : w.mode 69 = .pure
  e69 : w.ext 69 = none
  m71 : w.mode 71 = .pure
  e71 : w.ext 71 = none
  m72 : w.mode 72 = .pure
  e72 : w.ext 72 = none
  m78 : w.mode 78 = .pure
  e78 : w.ext 78 = none
  m80 : w.mode 80 = .pure
  e80 : w.ext 80 = none
  m81 : w.mode 81 = .pure
  e81 : w.ext 81 = none
  m82 : w.mode 82 = .pure
  e82 : w.ext 82 = none
  m85 : w.mode 85 = .pure
  e85 : w.ext 85 = none
  m88 : w.mode 88 = .pure
  e88 : w.ext 88 = none
  m93 : w.mode 93 = .pure
  e93 : w.ext 93 = none
  m99 : w.mode 99 = .pure
  e99 : w.ext 99 = none
  m89 : w.mode 89 = .raw
  e89 : w.ext 89 = none
  m97 : w.mode 97 = .raw
  e97 : w.ext 97 = none
  m70 : w.mode 70 = .raw
  e70 : w.ext 70 = none
  m91 : w.mode 91 = .raw
  e91 : w.ext 91 = none
  m92 : w.mode 92 = .raw
  e92 : w.ext 92 = none
  m83 : w.mode 83 = .raw
  e83 : w.ext 83 = none
  m94 : w.mode 94 = .raw
  e94 : w.ext 94 = none
  m95 : w.mode 95 = .raw
  e95 : w.ext 95 = none
  m37 : w.mode 37 = .raw
  e37 : w.ext 37 = none
  m73 : w.mode 73 = .temp
  e73 : w.ext 73 = none
  m74 : w.mode 74 = .temp
  e74 : w.ext 74 = none
  m84 : w.mode 84 = .temp
  e84 : w.ext 84 = none
  muf : ∀ f r, f ≠ 86 → w.muts f r = false
  eq29 : w.eqt 29 = true
/-- .. and these on plain data, too. -/
structure Std1 : Prop extends Std w where
  m38 : w.mode 38 = .pure
  e38 : w.ext 38 = none
  m41 : w.mode 41 = .pure
  e41 : w.ext 41 = none
  m43 : w.mode 43 = .pure
  e43 : w.ext 43 = none
  m79 : w.mode 79 = .pure
  e79 : w.ext 79 = none
  m76 : w.mode 76 = .pure
  e76 : w.ext 76 = none
  m75 : w.mode 75 = .pure
  e75 : w.ext 75 = none
end Go.Am.B
