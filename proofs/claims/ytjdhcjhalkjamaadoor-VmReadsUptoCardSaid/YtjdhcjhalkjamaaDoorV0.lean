/- THE SEAT'S TYPES AND FUNCTIONS AS THE ABSTRACT MACHINE SEES THEM. -/
import Derived.Test.YtjdhcjhalkjamaaDoorMf
import Derived.Test.YtjdhcjhalkjamaaDoorKL
import Derived.KernelRfl
import Derived.Test.YtjdhcjhalkjamaaDoorProg
set_option linter.unusedVariables false
namespace Go.Am.V
open Go.Proofs

noncomputable abbrev cfg (w : Ways) : Cfg := cfgP Tryd.prog w

theorem ty3 : tyOf Tryd.prog 3 = some ⟨.int .i64, 1, 8, some [.int .i64 0]⟩ := by kernel_rfl
theorem ty4 : tyOf Tryd.prog 4 = some ⟨.bool, 1, 1, some [.bool false]⟩ := by kernel_rfl
theorem ty5 : tyOf Tryd.prog 5 = some ⟨.int .u8, 1, 1, some [.int .u8 0]⟩ := by kernel_rfl
theorem ty9 : tyOf Tryd.prog 9 = some ⟨.str, 1, 16, some [.str []]⟩ := by kernel_rfl
theorem ty22 : tyOf Tryd.prog 22 = some ⟨.slice 39, 1, 24, some [.nils]⟩ := by kernel_rfl
theorem ty23 : tyOf Tryd.prog 23 = some ⟨.int .i64, 1, 8, some [.int .i64 0]⟩ := by kernel_rfl
theorem ty25 : tyOf Tryd.prog 25 = some ⟨.struct [(23, 0), (3, 1)], 2, 16, some [.int .i64 0, .int .i64 0]⟩ := by kernel_rfl
theorem ty37 : tyOf Tryd.prog 37 = some ⟨.int .u64, 1, 8, some [.int .u64 0]⟩ := by kernel_rfl
theorem ty39 : tyOf Tryd.prog 39 = some ⟨.struct [(3, 0), (3, 1), (3, 2), (3, 3)], 4, 32, some [.int .i64 0, .int .i64 0, .int .i64 0, .int .i64 0]⟩ := by kernel_rfl
theorem ty40 : tyOf Tryd.prog 40 = some ⟨.ptr 43, 1, 8, some [.nilp]⟩ := by kernel_rfl
theorem ty41 : tyOf Tryd.prog 41 = some ⟨.slice 3, 1, 24, some [.nils]⟩ := by kernel_rfl
theorem ty43 : tyOf Tryd.prog 43 = some ⟨.struct [(22, 0), (41, 1), (9, 2), (4, 3)], 4, 72, some [.nils, .nils, .str [], .bool false]⟩ := by kernel_rfl
theorem ty44 : tyOf Tryd.prog 44 = some ⟨.func, 1, 8, some [.nilf]⟩ := by kernel_rfl
theorem ty45 : tyOf Tryd.prog 45 = some ⟨.func, 1, 8, some [.nilf]⟩ := by kernel_rfl
theorem ty48 : tyOf Tryd.prog 48 = some ⟨.slice 54, 1, 24, some [.nils]⟩ := by kernel_rfl
theorem ty54 : tyOf Tryd.prog 54 = some ⟨.struct [(9, 0), (3, 1)], 2, 24, some [.str [], .int .i64 0]⟩ := by kernel_rfl
theorem ty59 : tyOf Tryd.prog 59 = some ⟨.map 9 62, 1, 8, some [.nilm]⟩ := by kernel_rfl
theorem ty62 : tyOf Tryd.prog 62 = some ⟨.struct [(3, 0), (9, 1)], 2, 24, some [.int .i64 0, .str []]⟩ := by kernel_rfl
theorem ty63 : tyOf Tryd.prog 63 = some ⟨.slice 9, 1, 24, some [.nils]⟩ := by kernel_rfl
theorem ty69 : tyOf Tryd.prog 69 = some ⟨.func, 1, 8, some [.nilf]⟩ := by kernel_rfl
theorem ty72 : tyOf Tryd.prog 72 = some ⟨.struct [(9, 0), (3, 1), (3, 2), (3, 3), (3, 4), (4, 5), (4, 6)], 7, 56, some [.str [], .int .i64 0, .int .i64 0, .int .i64 0, .int .i64 0, .bool false, .bool false]⟩ := by kernel_rfl
theorem ty77 : tyOf Tryd.prog 77 = some ⟨.iface, 1, 16, some [.nili]⟩ := by kernel_rfl
theorem ty80 : tyOf Tryd.prog 80 = some ⟨.ptr 39, 1, 8, some [.nilp]⟩ := by kernel_rfl
theorem ty84 : tyOf Tryd.prog 84 = some ⟨.slice 5, 1, 24, some [.nils]⟩ := by kernel_rfl
theorem ty90 : tyOf Tryd.prog 90 = some ⟨.func, 1, 8, some [.nilf]⟩ := by kernel_rfl
theorem ty92 : tyOf Tryd.prog 92 = some ⟨.array 8 90, 8, 64, some [.nilf, .nilf, .nilf, .nilf, .nilf, .nilf, .nilf, .nilf]⟩ := by kernel_rfl

variable (w : Ways)
theorem Tc3 : (cfg w).ty 3 = some ⟨.int .i64, 1, 8, some [.int .i64 0]⟩ := cfgP_tyd ty3
theorem Tk3 : kindOf (cfg w) 3 = .int .i64 := cfgP_kind ty3
theorem Tc4 : (cfg w).ty 4 = some ⟨.bool, 1, 1, some [.bool false]⟩ := cfgP_tyd ty4
theorem Tk4 : kindOf (cfg w) 4 = .bool := cfgP_kind ty4
theorem Tc5 : (cfg w).ty 5 = some ⟨.int .u8, 1, 1, some [.int .u8 0]⟩ := cfgP_tyd ty5
theorem Tk5 : kindOf (cfg w) 5 = .int .u8 := cfgP_kind ty5
theorem Tc9 : (cfg w).ty 9 = some ⟨.str, 1, 16, some [.str []]⟩ := cfgP_tyd ty9
theorem Tk9 : kindOf (cfg w) 9 = .str := cfgP_kind ty9
theorem Tc22 : (cfg w).ty 22 = some ⟨.slice 39, 1, 24, some [.nils]⟩ := cfgP_tyd ty22
theorem Tk22 : kindOf (cfg w) 22 = .slice 39 := cfgP_kind ty22
theorem Tc23 : (cfg w).ty 23 = some ⟨.int .i64, 1, 8, some [.int .i64 0]⟩ := cfgP_tyd ty23
theorem Tk23 : kindOf (cfg w) 23 = .int .i64 := cfgP_kind ty23
theorem Tc25 : (cfg w).ty 25 = some ⟨.struct [(23, 0), (3, 1)], 2, 16, some [.int .i64 0, .int .i64 0]⟩ := cfgP_tyd ty25
theorem Tk25 : kindOf (cfg w) 25 = .struct [(23, 0), (3, 1)] := cfgP_kind ty25
theorem Tc37 : (cfg w).ty 37 = some ⟨.int .u64, 1, 8, some [.int .u64 0]⟩ := cfgP_tyd ty37
theorem Tk37 : kindOf (cfg w) 37 = .int .u64 := cfgP_kind ty37
theorem Tc39 : (cfg w).ty 39 = some ⟨.struct [(3, 0), (3, 1), (3, 2), (3, 3)], 4, 32, some [.int .i64 0, .int .i64 0, .int .i64 0, .int .i64 0]⟩ := cfgP_tyd ty39
theorem Tk39 : kindOf (cfg w) 39 = .struct [(3, 0), (3, 1), (3, 2), (3, 3)] := cfgP_kind ty39
theorem Tc40 : (cfg w).ty 40 = some ⟨.ptr 43, 1, 8, some [.nilp]⟩ := cfgP_tyd ty40
theorem Tk40 : kindOf (cfg w) 40 = .ptr 43 := cfgP_kind ty40
theorem Tc41 : (cfg w).ty 41 = some ⟨.slice 3, 1, 24, some [.nils]⟩ := cfgP_tyd ty41
theorem Tk41 : kindOf (cfg w) 41 = .slice 3 := cfgP_kind ty41
theorem Tc43 : (cfg w).ty 43 = some ⟨.struct [(22, 0), (41, 1), (9, 2), (4, 3)], 4, 72, some [.nils, .nils, .str [], .bool false]⟩ := cfgP_tyd ty43
theorem Tk43 : kindOf (cfg w) 43 = .struct [(22, 0), (41, 1), (9, 2), (4, 3)] := cfgP_kind ty43
theorem Tc44 : (cfg w).ty 44 = some ⟨.func, 1, 8, some [.nilf]⟩ := cfgP_tyd ty44
theorem Tk44 : kindOf (cfg w) 44 = .func := cfgP_kind ty44
theorem Tc45 : (cfg w).ty 45 = some ⟨.func, 1, 8, some [.nilf]⟩ := cfgP_tyd ty45
theorem Tk45 : kindOf (cfg w) 45 = .func := cfgP_kind ty45
theorem Tc48 : (cfg w).ty 48 = some ⟨.slice 54, 1, 24, some [.nils]⟩ := cfgP_tyd ty48
theorem Tk48 : kindOf (cfg w) 48 = .slice 54 := cfgP_kind ty48
theorem Tc54 : (cfg w).ty 54 = some ⟨.struct [(9, 0), (3, 1)], 2, 24, some [.str [], .int .i64 0]⟩ := cfgP_tyd ty54
theorem Tk54 : kindOf (cfg w) 54 = .struct [(9, 0), (3, 1)] := cfgP_kind ty54
theorem Tc59 : (cfg w).ty 59 = some ⟨.map 9 62, 1, 8, some [.nilm]⟩ := cfgP_tyd ty59
theorem Tk59 : kindOf (cfg w) 59 = .map 9 62 := cfgP_kind ty59
theorem Tc62 : (cfg w).ty 62 = some ⟨.struct [(3, 0), (9, 1)], 2, 24, some [.int .i64 0, .str []]⟩ := cfgP_tyd ty62
theorem Tk62 : kindOf (cfg w) 62 = .struct [(3, 0), (9, 1)] := cfgP_kind ty62
theorem Tc63 : (cfg w).ty 63 = some ⟨.slice 9, 1, 24, some [.nils]⟩ := cfgP_tyd ty63
theorem Tk63 : kindOf (cfg w) 63 = .slice 9 := cfgP_kind ty63
theorem Tc69 : (cfg w).ty 69 = some ⟨.func, 1, 8, some [.nilf]⟩ := cfgP_tyd ty69
theorem Tk69 : kindOf (cfg w) 69 = .func := cfgP_kind ty69
theorem Tc72 : (cfg w).ty 72 = some ⟨.struct [(9, 0), (3, 1), (3, 2), (3, 3), (3, 4), (4, 5), (4, 6)], 7, 56, some [.str [], .int .i64 0, .int .i64 0, .int .i64 0, .int .i64 0, .bool false, .bool false]⟩ := cfgP_tyd ty72
theorem Tk72 : kindOf (cfg w) 72 = .struct [(9, 0), (3, 1), (3, 2), (3, 3), (3, 4), (4, 5), (4, 6)] := cfgP_kind ty72
theorem Tc77 : (cfg w).ty 77 = some ⟨.iface, 1, 16, some [.nili]⟩ := cfgP_tyd ty77
theorem Tk77 : kindOf (cfg w) 77 = .iface := cfgP_kind ty77
theorem Tc80 : (cfg w).ty 80 = some ⟨.ptr 39, 1, 8, some [.nilp]⟩ := cfgP_tyd ty80
theorem Tk80 : kindOf (cfg w) 80 = .ptr 39 := cfgP_kind ty80
theorem Tc84 : (cfg w).ty 84 = some ⟨.slice 5, 1, 24, some [.nils]⟩ := cfgP_tyd ty84
theorem Tk84 : kindOf (cfg w) 84 = .slice 5 := cfgP_kind ty84
theorem Tc90 : (cfg w).ty 90 = some ⟨.func, 1, 8, some [.nilf]⟩ := cfgP_tyd ty90
theorem Tk90 : kindOf (cfg w) 90 = .func := cfgP_kind ty90
theorem Tc92 : (cfg w).ty 92 = some ⟨.array 8 90, 8, 64, some [.nilf, .nilf, .nilf, .nilf, .nilf, .nilf, .nilf, .nilf]⟩ := cfgP_tyd ty92
theorem Tk92 : kindOf (cfg w) 92 = .array 8 90 := cfgP_kind ty92
theorem fn3 : (cfg w).fn 3 = some Tryd.f3 := cfgP_fnd Tryd.func3 (by decide +kernel)
theorem fn4 : (cfg w).fn 4 = some Tryd.f4 := cfgP_fnd Tryd.func4 (by decide +kernel)
theorem fn5 : (cfg w).fn 5 = some Tryd.f5 := cfgP_fnd Tryd.func5 (by decide +kernel)
theorem fn6 : (cfg w).fn 6 = some Tryd.f6 := cfgP_fnd Tryd.func6 (by decide +kernel)
theorem fn7 : (cfg w).fn 7 = some Tryd.f7 := cfgP_fnd Tryd.func7 (by decide +kernel)
theorem fn8 : (cfg w).fn 8 = some Tryd.f8 := cfgP_fnd Tryd.func8 (by decide +kernel)
theorem fn9 : (cfg w).fn 9 = some Tryd.f9 := cfgP_fnd Tryd.func9 (by decide +kernel)
theorem fn10 : (cfg w).fn 10 = some Tryd.f10 := cfgP_fnd Tryd.func10 (by decide +kernel)
theorem fn11 : (cfg w).fn 11 = some Tryd.f11 := cfgP_fnd Tryd.func11 (by decide +kernel)
theorem fn12 : (cfg w).fn 12 = some Tryd.f12 := cfgP_fnd Tryd.func12 (by decide +kernel)
theorem fn13 : (cfg w).fn 13 = some Tryd.f13 := cfgP_fnd Tryd.func13 (by decide +kernel)
theorem fn14 : (cfg w).fn 14 = some Tryd.f14 := cfgP_fnd Tryd.func14 (by decide +kernel)
theorem fn15 : (cfg w).fn 15 = some Tryd.f15 := cfgP_fnd Tryd.func15 (by decide +kernel)
theorem fn16 : (cfg w).fn 16 = some Tryd.f16 := cfgP_fnd Tryd.func16 (by decide +kernel)
theorem fn17 : (cfg w).fn 17 = some Tryd.f17 := cfgP_fnd Tryd.func17 (by decide +kernel)
theorem fn18 : (cfg w).fn 18 = some Tryd.f18 := cfgP_fnd Tryd.func18 (by decide +kernel)
theorem fn19 : (cfg w).fn 19 = some Tryd.f19 := cfgP_fnd Tryd.func19 (by decide +kernel)
theorem fn20 : (cfg w).fn 20 = some Tryd.f20 := cfgP_fnd Tryd.func20 (by decide +kernel)
theorem fn21 : (cfg w).fn 21 = some Tryd.f21 := cfgP_fnd Tryd.func21 (by decide +kernel)
theorem fn22 : (cfg w).fn 22 = some Tryd.f22 := cfgP_fnd Tryd.func22 (by decide +kernel)
theorem fn23 : (cfg w).fn 23 = some Tryd.f23 := cfgP_fnd Tryd.func23 (by decide +kernel)
theorem fn24 : (cfg w).fn 24 = some Tryd.f24 := cfgP_fnd Tryd.func24 (by decide +kernel)
theorem fn25 : (cfg w).fn 25 = some Tryd.f25 := cfgP_fnd Tryd.func25 (by decide +kernel)
theorem fn26 : (cfg w).fn 26 = some Tryd.f26 := cfgP_fnd Tryd.func26 (by decide +kernel)
theorem fn27 : (cfg w).fn 27 = some Tryd.f27 := cfgP_fnd Tryd.func27 (by decide +kernel)
theorem fn28 : (cfg w).fn 28 = some Tryd.f28 := cfgP_fnd Tryd.func28 (by decide +kernel)
theorem fn29 : (cfg w).fn 29 = some Tryd.f29 := cfgP_fnd Tryd.func29 (by decide +kernel)
theorem fn30 : (cfg w).fn 30 = some Tryd.f30 := cfgP_fnd Tryd.func30 (by decide +kernel)
theorem fn31 : (cfg w).fn 31 = some Tryd.f31 := cfgP_fnd Tryd.func31 (by decide +kernel)
theorem fn32 : (cfg w).fn 32 = some Tryd.f32 := cfgP_fnd Tryd.func32 (by decide +kernel)
theorem fn33 : (cfg w).fn 33 = some Tryd.f33 := cfgP_fnd Tryd.func33 (by decide +kernel)
theorem fn34 : (cfg w).fn 34 = some Tryd.f34 := cfgP_fnd Tryd.func34 (by decide +kernel)
theorem fn35 : (cfg w).fn 35 = some Tryd.f35 := cfgP_fnd Tryd.func35 (by decide +kernel)
theorem fn36 : (cfg w).fn 36 = some Tryd.f36 := cfgP_fnd Tryd.func36 (by decide +kernel)
theorem fn37 : (cfg w).fn 37 = some Tryd.f37 := cfgP_fnd Tryd.func37 (by decide +kernel)
theorem fn38 : (cfg w).fn 38 = some Tryd.f38 := cfgP_fnd Tryd.func38 (by decide +kernel)
theorem fn39 : (cfg w).fn 39 = some Tryd.f39 := cfgP_fnd Tryd.func39 (by decide +kernel)
theorem fn40 : (cfg w).fn 40 = some Tryd.f40 := cfgP_fnd Tryd.func40 (by decide +kernel)
theorem fn41 : (cfg w).fn 41 = some Tryd.f41 := cfgP_fnd Tryd.func41 (by decide +kernel)
theorem fn42 : (cfg w).fn 42 = some Tryd.f42 := cfgP_fnd Tryd.func42 (by decide +kernel)
theorem fn43 : (cfg w).fn 43 = some Tryd.f43 := cfgP_fnd Tryd.func43 (by decide +kernel)
theorem fn44 : (cfg w).fn 44 = some Tryd.f44 := cfgP_fnd Tryd.func44 (by decide +kernel)
theorem fn45 : (cfg w).fn 45 = some Tryd.f45 := cfgP_fnd Tryd.func45 (by decide +kernel)
theorem fn46 : (cfg w).fn 46 = some Tryd.f46 := cfgP_fnd Tryd.func46 (by decide +kernel)
theorem fn47 : (cfg w).fn 47 = some Tryd.f47 := cfgP_fnd Tryd.func47 (by decide +kernel)
theorem fn48 : (cfg w).fn 48 = some Tryd.f48 := cfgP_fnd Tryd.func48 (by decide +kernel)
theorem fn49 : (cfg w).fn 49 = some Tryd.f49 := cfgP_fnd Tryd.func49 (by decide +kernel)
theorem fn50 : (cfg w).fn 50 = some Tryd.f50 := cfgP_fnd Tryd.func50 (by decide +kernel)
theorem fn51 : (cfg w).fn 51 = some Tryd.f51 := cfgP_fnd Tryd.func51 (by decide +kernel)

/-- How the functions are called. -/
structure Std : Prop where
  m3 : w.mode 3 = .pure
  e3 : w.ext 3 = none
  m4 : w.mode 4 = .pure
  e4 : w.ext 4 = none
  m5 : w.mode 5 = .pure
  e5 : w.ext 5 = none
  m6 : w.mode 6 = .pure
  e6 : w.ext 6 = none
  m7 : w.mode 7 = .pure
  e7 : w.ext 7 = none
  m8 : w.mode 8 = .pure
  e8 : w.ext 8 = none
  m9 : w.mode 9 = .pure
  e9 : w.ext 9 = none
  m10 : w.mode 10 = .pure
  e10 : w.ext 10 = none
  m12 : w.mode 12 = .pure
  e12 : w.ext 12 = none
  m13 : w.mode 13 = .pure
  e13 : w.ext 13 = none
  m14 : w.mode 14 = .pure
  e14 : w.ext 14 = none
  m15 : w.mode 15 = .pure
  e15 : w.ext 15 = none
  m16 : w.mode 16 = .pure
  e16 : w.ext 16 = none
  m17 : w.mode 17 = .pure
  e17 : w.ext 17 = none
  m18 : w.mode 18 = .raw
  e18 : w.ext 18 = none
  m19 : w.mode 19 = .raw
  e19 : w.ext 19 = none
  m20 : w.mode 20 = .raw
  e20 : w.ext 20 = none
  m21 : w.mode 21 = .pure
  e21 : w.ext 21 = none
  m22 : w.mode 22 = .pure
  e22 : w.ext 22 = none
  m23 : w.mode 23 = .pure
  e23 : w.ext 23 = none
  m24 : w.mode 24 = .pure
  e24 : w.ext 24 = none
  m25 : w.mode 25 = .pure
  e25 : w.ext 25 = none
  m29 : w.mode 29 = .pure
  e29 : w.ext 29 = none
  m30 : w.mode 30 = .temp
  e30 : w.ext 30 = none
  m31 : w.mode 31 = .temp
  e31 : w.ext 31 = none
  m32 : w.mode 32 = .pure
  e32 : w.ext 32 = none
  m33 : w.mode 33 = .pure
  e33 : w.ext 33 = none
  m34 : w.mode 34 = .raw
  e34 : w.ext 34 = none
  m35 : w.mode 35 = .raw
  e35 : w.ext 35 = none
  m38 : w.mode 38 = .pure
  e38 : w.ext 38 = none
  m43 : w.mode 43 = .temp
  e43 : w.ext 43 = none
  m44 : w.mode 44 = .pure
  e44 : w.ext 44 = none
  m45 : w.mode 45 = .raw
  e45 : w.ext 45 = none
  m46 : w.mode 46 = .raw
  e46 : w.ext 46 = none
  m47 : w.mode 47 = .raw
  e47 : w.ext 47 = none
  m48 : w.mode 48 = .raw
  e48 : w.ext 48 = none
  m49 : w.mode 49 = .raw
  e49 : w.ext 49 = none
  m50 : w.mode 50 = .raw
  e50 : w.ext 50 = none
  m51 : w.mode 51 = .raw
  e51 : w.ext 51 = none
  muf : ∀ f r, f ≠ 20 → w.muts f r = false
  mu20 : ∀ r, w.muts 20 r = true
  eq25 : w.eqt 25 = true
  eq39 : w.eqt 39 = true
theorem KT : type_of% (Tc3 w) ∧ type_of% (Tk3 w) ∧ type_of% (Tc4 w) ∧ type_of% (Tk4 w) ∧ type_of% (Tc5 w) ∧ type_of% (Tk5 w) ∧ type_of% (Tc9 w) ∧ type_of% (Tk9 w) ∧ type_of% (Tc22 w) ∧ type_of% (Tk22 w) ∧ type_of% (Tc23 w) ∧ type_of% (Tk23 w) ∧ type_of% (Tc25 w) ∧ type_of% (Tk25 w) ∧ type_of% (Tc37 w) ∧ type_of% (Tk37 w) ∧ type_of% (Tc39 w) ∧ type_of% (Tk39 w) ∧ type_of% (Tc40 w) ∧ type_of% (Tk40 w) ∧ type_of% (Tc41 w) ∧ type_of% (Tk41 w) ∧ type_of% (Tc43 w) ∧ type_of% (Tk43 w) ∧ type_of% (Tc44 w) ∧ type_of% (Tk44 w) ∧ type_of% (Tc45 w) ∧ type_of% (Tk45 w) ∧ type_of% (Tc48 w) ∧ type_of% (Tk48 w) ∧ type_of% (Tc54 w) ∧ type_of% (Tk54 w) ∧ type_of% (Tc59 w) ∧ type_of% (Tk59 w) ∧ type_of% (Tc62 w) ∧ type_of% (Tk62 w) ∧ type_of% (Tc63 w) ∧ type_of% (Tk63 w) ∧ type_of% (Tc69 w) ∧ type_of% (Tk69 w) ∧ type_of% (Tc72 w) ∧ type_of% (Tk72 w) ∧ type_of% (Tc77 w) ∧ type_of% (Tk77 w) ∧ type_of% (Tc80 w) ∧ type_of% (Tk80 w) ∧ type_of% (Tc84 w) ∧ type_of% (Tk84 w) ∧ type_of% (Tc90 w) ∧ type_of% (Tk90 w) ∧ type_of% (Tc92 w) ∧ type_of% (Tk92 w) :=
  ⟨Tc3 w, Tk3 w, Tc4 w, Tk4 w, Tc5 w, Tk5 w, Tc9 w, Tk9 w, Tc22 w, Tk22 w, Tc23 w, Tk23 w, Tc25 w, Tk25 w, Tc37 w, Tk37 w, Tc39 w, Tk39 w, Tc40 w, Tk40 w, Tc41 w, Tk41 w, Tc43 w, Tk43 w, Tc44 w, Tk44 w, Tc45 w, Tk45 w, Tc48 w, Tk48 w, Tc54 w, Tk54 w, Tc59 w, Tk59 w, Tc62 w, Tk62 w, Tc63 w, Tk63 w, Tc69 w, Tk69 w, Tc72 w, Tk72 w, Tc77 w, Tk77 w, Tc80 w, Tk80 w, Tc84 w, Tk84 w, Tc90 w, Tk90 w, Tc92 w, Tk92 w⟩
variable {w : Ways}
theorem Std.KF (hw : Std w) : type_of% hw.m3 ∧ type_of% hw.e3 ∧ type_of% hw.m4 ∧ type_of% hw.e4 ∧ type_of% hw.m5 ∧ type_of% hw.e5 ∧ type_of% hw.m6 ∧ type_of% hw.e6 ∧ type_of% hw.m7 ∧ type_of% hw.e7 ∧ type_of% hw.m8 ∧ type_of% hw.e8 ∧ type_of% hw.m9 ∧ type_of% hw.e9 ∧ type_of% hw.m10 ∧ type_of% hw.e10 ∧ type_of% hw.m12 ∧ type_of% hw.e12 ∧ type_of% hw.m13 ∧ type_of% hw.e13 ∧ type_of% hw.m14 ∧ type_of% hw.e14 ∧ type_of% hw.m15 ∧ type_of% hw.e15 ∧ type_of% hw.m16 ∧ type_of% hw.e16 ∧ type_of% hw.m17 ∧ type_of% hw.e17 ∧ type_of% hw.m18 ∧ type_of% hw.e18 ∧ type_of% hw.m19 ∧ type_of% hw.e19 ∧ type_of% hw.m20 ∧ type_of% hw.e20 ∧ type_of% hw.m21 ∧ type_of% hw.e21 ∧ type_of% hw.m22 ∧ type_of% hw.e22 ∧ type_of% hw.m23 ∧ type_of% hw.e23 ∧ type_of% hw.m24 ∧ type_of% hw.e24 ∧ type_of% hw.m25 ∧ type_of% hw.e25 ∧ type_of% hw.m29 ∧ type_of% hw.e29 ∧ type_of% hw.m30 ∧ type_of% hw.e30 ∧ type_of% hw.m31 ∧ type_of% hw.e31 ∧ type_of% hw.m32 ∧ type_of% hw.e32 ∧ type_of% hw.m33 ∧ type_of% hw.e33 ∧ type_of% hw.m34 ∧ type_of% hw.e34 ∧ type_of% hw.m35 ∧ type_of% hw.e35 ∧ type_of% hw.m38 ∧ type_of% hw.e38 ∧ type_of% hw.m43 ∧ type_of% hw.e43 ∧ type_of% hw.m44 ∧ type_of% hw.e44 ∧ type_of% hw.m45 ∧ type_of% hw.e45 ∧ type_of% hw.m46 ∧ type_of% hw.e46 ∧ type_of% hw.m47 ∧ type_of% hw.e47 ∧ type_of% hw.m48 ∧ type_of% hw.e48 ∧ type_of% hw.m49 ∧ type_of% hw.e49 ∧ type_of% hw.m50 ∧ type_of% hw.e50 ∧ type_of% hw.m51 ∧ type_of% hw.e51 ∧ type_of% hw.muf ∧ type_of% hw.mu20 ∧ type_of% hw.eq25 ∧ type_of% hw.eq39 :=
  ⟨hw.m3, hw.e3, hw.m4, hw.e4, hw.m5, hw.e5, hw.m6, hw.e6, hw.m7, hw.e7, hw.m8, hw.e8, hw.m9, hw.e9, hw.m10, hw.e10, hw.m12, hw.e12, hw.m13, hw.e13, hw.m14, hw.e14, hw.m15, hw.e15, hw.m16, hw.e16, hw.m17, hw.e17, hw.m18, hw.e18, hw.m19, hw.e19, hw.m20, hw.e20, hw.m21, hw.e21, hw.m22, hw.e22, hw.m23, hw.e23, hw.m24, hw.e24, hw.m25, hw.e25, hw.m29, hw.e29, hw.m30, hw.e30, hw.m31, hw.e31, hw.m32, hw.e32, hw.m33, hw.e33, hw.m34, hw.e34, hw.m35, hw.e35, hw.m38, hw.e38, hw.m43, hw.e43, hw.m44, hw.e44, hw.m45, hw.e45, hw.m46, hw.e46, hw.m47, hw.e47, hw.m48, hw.e48, hw.m49, hw.e49, hw.m50, hw.e50, hw.m51, hw.e51, hw.muf, hw.mu20, hw.eq25, hw.eq39⟩
end Go.Am.V
