/- THE SEAT'S TYPES AND FUNCTIONS AS THE ABSTRACT MACHINE SEES THEM. -/
import Derived.Test.YtbmfnoaogebjfaaDoorMf
import Derived.Test.YtbmfnoaogebjfaaDoorKM
import Derived.KernelRfl
import Derived.Test.YtbmfnoaogebjfaaDoorProg
set_option linter.unusedVariables false
namespace Go.Am.R
open Go.Proofs

noncomputable abbrev cfg (w : Ways) : Cfg := cfgP Tryd.prog w

theorem ty2 : tyOf Tryd.prog 2 = some ⟨.int .i64, 1, 8, some [.int .i64 0]⟩ := by kernel_rfl
theorem ty3 : tyOf Tryd.prog 3 = some ⟨.int .i64, 1, 8, some [.int .i64 0]⟩ := by kernel_rfl
theorem ty4 : tyOf Tryd.prog 4 = some ⟨.bool, 1, 1, some [.bool false]⟩ := by kernel_rfl
theorem ty5 : tyOf Tryd.prog 5 = some ⟨.int .u8, 1, 1, some [.int .u8 0]⟩ := by kernel_rfl
theorem ty9 : tyOf Tryd.prog 9 = some ⟨.str, 1, 16, some [.str []]⟩ := by kernel_rfl
theorem ty22 : tyOf Tryd.prog 22 = some ⟨.slice 60, 1, 24, some [.nils]⟩ := by kernel_rfl
theorem ty23 : tyOf Tryd.prog 23 = some ⟨.slice 3, 1, 24, some [.nils]⟩ := by kernel_rfl
theorem ty25 : tyOf Tryd.prog 25 = some ⟨.struct [(22, 0), (3, 1), (23, 2)], 3, 56, some [.nils, .int .i64 0, .nils]⟩ := by kernel_rfl
theorem ty26 : tyOf Tryd.prog 26 = some ⟨.slice 28, 1, 24, some [.nils]⟩ := by kernel_rfl
theorem ty28 : tyOf Tryd.prog 28 = some ⟨.struct [(9, 0), (4, 1), (9, 2), (3, 3), (3, 4), (3, 5), (26, 6)], 7, 88, some [.str [], .bool false, .str [], .int .i64 0, .int .i64 0, .int .i64 0, .nils]⟩ := by kernel_rfl
theorem ty32 : tyOf Tryd.prog 32 = some ⟨.int .i64, 1, 8, some [.int .i64 0]⟩ := by kernel_rfl
theorem ty47 : tyOf Tryd.prog 47 = some ⟨.slice 4, 1, 24, some [.nils]⟩ := by kernel_rfl
theorem ty60 : tyOf Tryd.prog 60 = some ⟨.struct [(28, 0), (23, 7), (3, 8), (3, 9)], 10, 128, some [.str [], .bool false, .str [], .int .i64 0, .int .i64 0, .int .i64 0, .nils, .nils, .int .i64 0, .int .i64 0]⟩ := by kernel_rfl
theorem ty62 : tyOf Tryd.prog 62 = some ⟨.ptr 66, 1, 8, some [.nilp]⟩ := by kernel_rfl
theorem ty64 : tyOf Tryd.prog 64 = some ⟨.map 80 3, 1, 8, some [.nilm]⟩ := by kernel_rfl
theorem ty66 : tyOf Tryd.prog 66 = some ⟨.struct [(25, 0), (64, 3), (4, 4)], 5, 72, some [.nils, .int .i64 0, .nils, .nilm, .bool false]⟩ := by kernel_rfl
theorem ty72 : tyOf Tryd.prog 72 = some ⟨.func, 1, 8, some [.nilf]⟩ := by kernel_rfl
theorem ty76 : tyOf Tryd.prog 76 = some ⟨.map 3 4, 1, 8, some [.nilm]⟩ := by kernel_rfl
theorem ty80 : tyOf Tryd.prog 80 = some ⟨.struct [(9, 0), (9, 1), (4, 2), (3, 3), (3, 4), (3, 5), (9, 6)], 7, 80, some [.str [], .str [], .bool false, .int .i64 0, .int .i64 0, .int .i64 0, .str []]⟩ := by kernel_rfl

variable (w : Ways)
theorem Tc2 : (cfg w).ty 2 = some ⟨.int .i64, 1, 8, some [.int .i64 0]⟩ := cfgP_tyd ty2
theorem Tk2 : kindOf (cfg w) 2 = .int .i64 := cfgP_kind ty2
theorem Tc3 : (cfg w).ty 3 = some ⟨.int .i64, 1, 8, some [.int .i64 0]⟩ := cfgP_tyd ty3
theorem Tk3 : kindOf (cfg w) 3 = .int .i64 := cfgP_kind ty3
theorem Tc4 : (cfg w).ty 4 = some ⟨.bool, 1, 1, some [.bool false]⟩ := cfgP_tyd ty4
theorem Tk4 : kindOf (cfg w) 4 = .bool := cfgP_kind ty4
theorem Tc5 : (cfg w).ty 5 = some ⟨.int .u8, 1, 1, some [.int .u8 0]⟩ := cfgP_tyd ty5
theorem Tk5 : kindOf (cfg w) 5 = .int .u8 := cfgP_kind ty5
theorem Tc9 : (cfg w).ty 9 = some ⟨.str, 1, 16, some [.str []]⟩ := cfgP_tyd ty9
theorem Tk9 : kindOf (cfg w) 9 = .str := cfgP_kind ty9
theorem Tc22 : (cfg w).ty 22 = some ⟨.slice 60, 1, 24, some [.nils]⟩ := cfgP_tyd ty22
theorem Tk22 : kindOf (cfg w) 22 = .slice 60 := cfgP_kind ty22
theorem Tc23 : (cfg w).ty 23 = some ⟨.slice 3, 1, 24, some [.nils]⟩ := cfgP_tyd ty23
theorem Tk23 : kindOf (cfg w) 23 = .slice 3 := cfgP_kind ty23
theorem Tc25 : (cfg w).ty 25 = some ⟨.struct [(22, 0), (3, 1), (23, 2)], 3, 56, some [.nils, .int .i64 0, .nils]⟩ := cfgP_tyd ty25
theorem Tk25 : kindOf (cfg w) 25 = .struct [(22, 0), (3, 1), (23, 2)] := cfgP_kind ty25
theorem Tc26 : (cfg w).ty 26 = some ⟨.slice 28, 1, 24, some [.nils]⟩ := cfgP_tyd ty26
theorem Tk26 : kindOf (cfg w) 26 = .slice 28 := cfgP_kind ty26
theorem Tc28 : (cfg w).ty 28 = some ⟨.struct [(9, 0), (4, 1), (9, 2), (3, 3), (3, 4), (3, 5), (26, 6)], 7, 88, some [.str [], .bool false, .str [], .int .i64 0, .int .i64 0, .int .i64 0, .nils]⟩ := cfgP_tyd ty28
theorem Tk28 : kindOf (cfg w) 28 = .struct [(9, 0), (4, 1), (9, 2), (3, 3), (3, 4), (3, 5), (26, 6)] := cfgP_kind ty28
theorem Tc32 : (cfg w).ty 32 = some ⟨.int .i64, 1, 8, some [.int .i64 0]⟩ := cfgP_tyd ty32
theorem Tk32 : kindOf (cfg w) 32 = .int .i64 := cfgP_kind ty32
theorem Tc47 : (cfg w).ty 47 = some ⟨.slice 4, 1, 24, some [.nils]⟩ := cfgP_tyd ty47
theorem Tk47 : kindOf (cfg w) 47 = .slice 4 := cfgP_kind ty47
theorem Tc60 : (cfg w).ty 60 = some ⟨.struct [(28, 0), (23, 7), (3, 8), (3, 9)], 10, 128, some [.str [], .bool false, .str [], .int .i64 0, .int .i64 0, .int .i64 0, .nils, .nils, .int .i64 0, .int .i64 0]⟩ := cfgP_tyd ty60
theorem Tk60 : kindOf (cfg w) 60 = .struct [(28, 0), (23, 7), (3, 8), (3, 9)] := cfgP_kind ty60
theorem Tc62 : (cfg w).ty 62 = some ⟨.ptr 66, 1, 8, some [.nilp]⟩ := cfgP_tyd ty62
theorem Tk62 : kindOf (cfg w) 62 = .ptr 66 := cfgP_kind ty62
theorem Tc64 : (cfg w).ty 64 = some ⟨.map 80 3, 1, 8, some [.nilm]⟩ := cfgP_tyd ty64
theorem Tk64 : kindOf (cfg w) 64 = .map 80 3 := cfgP_kind ty64
theorem Tc66 : (cfg w).ty 66 = some ⟨.struct [(25, 0), (64, 3), (4, 4)], 5, 72, some [.nils, .int .i64 0, .nils, .nilm, .bool false]⟩ := cfgP_tyd ty66
theorem Tk66 : kindOf (cfg w) 66 = .struct [(25, 0), (64, 3), (4, 4)] := cfgP_kind ty66
theorem Tc72 : (cfg w).ty 72 = some ⟨.func, 1, 8, some [.nilf]⟩ := cfgP_tyd ty72
theorem Tk72 : kindOf (cfg w) 72 = .func := cfgP_kind ty72
theorem Tc76 : (cfg w).ty 76 = some ⟨.map 3 4, 1, 8, some [.nilm]⟩ := cfgP_tyd ty76
theorem Tk76 : kindOf (cfg w) 76 = .map 3 4 := cfgP_kind ty76
theorem Tc80 : (cfg w).ty 80 = some ⟨.struct [(9, 0), (9, 1), (4, 2), (3, 3), (3, 4), (3, 5), (9, 6)], 7, 80, some [.str [], .str [], .bool false, .int .i64 0, .int .i64 0, .int .i64 0, .str []]⟩ := cfgP_tyd ty80
theorem Tk80 : kindOf (cfg w) 80 = .struct [(9, 0), (9, 1), (4, 2), (3, 3), (3, 4), (3, 5), (9, 6)] := cfgP_kind ty80
theorem fn3 : (cfg w).fn 3 = some Tryd.f3 := cfgP_fnd Tryd.func3 (by decide +kernel)
theorem fn4 : (cfg w).fn 4 = some Tryd.f4 := cfgP_fnd Tryd.func4 (by decide +kernel)
theorem fn5 : (cfg w).fn 5 = some Tryd.f5 := cfgP_fnd Tryd.func5 (by decide +kernel)
theorem fn6 : (cfg w).fn 6 = some Tryd.f6 := cfgP_fnd Tryd.func6 (by decide +kernel)
theorem fn8 : (cfg w).fn 8 = some Tryd.f8 := cfgP_fnd Tryd.func8 (by decide +kernel)
theorem fn9 : (cfg w).fn 9 = some Tryd.f9 := cfgP_fnd Tryd.func9 (by decide +kernel)
theorem fn10 : (cfg w).fn 10 = some Tryd.f10 := cfgP_fnd Tryd.func10 (by decide +kernel)
theorem fn11 : (cfg w).fn 11 = some Tryd.f11 := cfgP_fnd Tryd.func11 (by decide +kernel)
theorem fn12 : (cfg w).fn 12 = some Tryd.f12 := cfgP_fnd Tryd.func12 (by decide +kernel)
theorem fn13 : (cfg w).fn 13 = some Tryd.f13 := cfgP_fnd Tryd.func13 (by decide +kernel)
theorem fn14 : (cfg w).fn 14 = some Tryd.f14 := cfgP_fnd Tryd.func14 (by decide +kernel)
theorem fn15 : (cfg w).fn 15 = some Tryd.f15 := cfgP_fnd Tryd.func15 (by decide +kernel)
theorem fn16 : (cfg w).fn 16 = some Tryd.f16 := cfgP_fnd Tryd.func16 (by decide +kernel)
theorem fn17 : (cfg w).fn 17 = some Tryd.f17 := cfgP_fnd Tryd.func17 (by decide +kernel)
theorem fn18 : (cfg w).fn 18 = some Tryd.f18 := cfgP_fnd Tryd.func18 (by decide +kernel)
theorem fn19 : (cfg w).fn 19 = some Tryd.f19 := cfgP_fnd Tryd.func19 (by decide +kernel)
theorem fn20 : (cfg w).fn 20 = some Tryd.f20 := cfgP_fnd Tryd.func20 (by decide +kernel)
theorem fn22 : (cfg w).fn 22 = some Tryd.f22 := cfgP_fnd Tryd.func22 (by decide +kernel)
theorem fn25 : (cfg w).fn 25 = some Tryd.f25 := cfgP_fnd Tryd.func25 (by decide +kernel)
theorem fn26 : (cfg w).fn 26 = some Tryd.f26 := cfgP_fnd Tryd.func26 (by decide +kernel)
theorem fn27 : (cfg w).fn 27 = some Tryd.f27 := cfgP_fnd Tryd.func27 (by decide +kernel)
theorem fn29 : (cfg w).fn 29 = some Tryd.f29 := cfgP_fnd Tryd.func29 (by decide +kernel)
theorem fn30 : (cfg w).fn 30 = some Tryd.f30 := cfgP_fnd Tryd.func30 (by decide +kernel)
theorem fn31 : (cfg w).fn 31 = some Tryd.f31 := cfgP_fnd Tryd.func31 (by decide +kernel)
theorem fn32 : (cfg w).fn 32 = some Tryd.f32 := cfgP_fnd Tryd.func32 (by decide +kernel)
theorem fn33 : (cfg w).fn 33 = some Tryd.f33 := cfgP_fnd Tryd.func33 (by decide +kernel)
theorem fn34 : (cfg w).fn 34 = some Tryd.f34 := cfgP_fnd Tryd.func34 (by decide +kernel)
theorem fn35 : (cfg w).fn 35 = some Tryd.f35 := cfgP_fnd Tryd.func35 (by decide +kernel)
theorem fn36 : (cfg w).fn 36 = some Tryd.f36 := cfgP_fnd Tryd.func36 (by decide +kernel)
theorem fn37 : (cfg w).fn 37 = some Tryd.f37 := cfgP_fnd Tryd.func37 (by decide +kernel)
theorem fn38 : (cfg w).fn 38 = some Tryd.f38 := cfgP_fnd Tryd.func38 (by decide +kernel)
theorem fn39 : (cfg w).fn 39 = some Tryd.f39 := cfgP_fnd Tryd.func39 (by decide +kernel)
theorem fn40 : (cfg w).fn 40 = some Tryd.f40 := cfgP_fnd Tryd.func40 (by decide +kernel)
theorem fn41 : (cfg w).fn 41 = some Tryd.f41 := cfgP_fnd Tryd.func41 (by decide +kernel)
theorem fn42 : (cfg w).fn 42 = some Tryd.f42 := cfgP_fnd Tryd.func42 (by decide +kernel)
theorem fn43 : (cfg w).fn 43 = some Tryd.f43 := cfgP_fnd Tryd.func43 (by decide +kernel)
theorem fn44 : (cfg w).fn 44 = some Tryd.f44 := cfgP_fnd Tryd.func44 (by decide +kernel)
theorem fn46 : (cfg w).fn 46 = some Tryd.f46 := cfgP_fnd Tryd.func46 (by decide +kernel)
theorem fn58 : (cfg w).fn 58 = some Tryd.f58 := cfgP_fnd Tryd.func58 (by decide +kernel)
theorem fn60 : (cfg w).fn 60 = some Tryd.f60 := cfgP_fnd Tryd.func60 (by decide +kernel)
theorem fn61 : (cfg w).fn 61 = some Tryd.f61 := cfgP_fnd Tryd.func61 (by decide +kernel)
theorem fn62 : (cfg w).fn 62 = some Tryd.f62 := cfgP_fnd Tryd.func62 (by decide +kernel)
theorem fn63 : (cfg w).fn 63 = some Tryd.f63 := cfgP_fnd Tryd.func63 (by decide +kernel)

/-- How the functions are called. -/
structure Std : Prop where
  m3 : w.mode 3 = .pure
  e3 : w.ext 3 = none
  m4 : w.mode 4 = .pure
  e4 : w.ext 4 = none
  m5 : w.mode 5 = .pure
  e5 : w.ext 5 = none
  m6 : w.mode 6 = .pure
  e6 : w.ext 6 = none
  m8 : w.mode 8 = .pure
  e8 : w.ext 8 = none
  m9 : w.mode 9 = .pure
  e9 : w.ext 9 = none
  m10 : w.mode 10 = .pure
  e10 : w.ext 10 = none
  m11 : w.mode 11 = .pure
  e11 : w.ext 11 = none
  m12 : w.mode 12 = .pure
  e12 : w.ext 12 = none
  m13 : w.mode 13 = .pure
  e13 : w.ext 13 = none
  m14 : w.mode 14 = .pure
  e14 : w.ext 14 = none
  m15 : w.mode 15 = .pure
  e15 : w.ext 15 = none
  m16 : w.mode 16 = .pure
  e16 : w.ext 16 = none
  m17 : w.mode 17 = .pure
  e17 : w.ext 17 = none
  m18 : w.mode 18 = .pure
  e18 : w.ext 18 = none
  m19 : w.mode 19 = .pure
  e19 : w.ext 19 = none
  m20 : w.mode 20 = .pure
  e20 : w.ext 20 = none
  m22 : w.mode 22 = .pure
  e22 : w.ext 22 = none
  m25 : w.mode 25 = .pure
  e25 : w.ext 25 = none
  m26 : w.mode 26 = .pure
  e26 : w.ext 26 = none
  m27 : w.mode 27 = .pure
  e27 : w.ext 27 = none
  m29 : w.mode 29 = .pure
  e29 : w.ext 29 = none
  m30 : w.mode 30 = .pure
  e30 : w.ext 30 = none
  m31 : w.mode 31 = .pure
  e31 : w.ext 31 = none
  m32 : w.mode 32 = .raw
  e32 : w.ext 32 = none
  m33 : w.mode 33 = .raw
  e33 : w.ext 33 = none
  m34 : w.mode 34 = .raw
  e34 : w.ext 34 = none
  m35 : w.mode 35 = .raw
  e35 : w.ext 35 = none
  m36 : w.mode 36 = .raw
  e36 : w.ext 36 = none
  m37 : w.mode 37 = .pure
  e37 : w.ext 37 = none
  m38 : w.mode 38 = .raw
  e38 : w.ext 38 = none
  m39 : w.mode 39 = .pure
  e39 : w.ext 39 = none
  m40 : w.mode 40 = .raw
  e40 : w.ext 40 = none
  m41 : w.mode 41 = .pure
  e41 : w.ext 41 = none
  m42 : w.mode 42 = .pure
  e42 : w.ext 42 = none
  m43 : w.mode 43 = .pure
  e43 : w.ext 43 = none
  m44 : w.mode 44 = .raw
  e44 : w.ext 44 = none
  m58 : w.mode 58 = .pure
  e58 : w.ext 58 = none
  m60 : w.mode 60 = .raw
  m61 : w.mode 61 = .raw
  m62 : w.mode 62 = .raw
  e62 : w.ext 62 = none
  m63 : w.mode 63 = .raw
  e63 : w.ext 63 = none
  mu60 : ∀ r, w.muts 60 r = true
  mu61 : ∀ r, w.muts 61 r = true
  mu62 : ∀ r, w.muts 62 r = true
  mu12 : ∀ r, w.muts 12 r = true
  mu33 : ∀ r, w.muts 33 r = false
  mu22 : ∀ r, w.muts 22 r = false
  eq80 : w.eqt 80 = true
theorem KT : type_of% (Tc2 w) ∧ type_of% (Tk2 w) ∧ type_of% (Tc3 w) ∧ type_of% (Tk3 w) ∧ type_of% (Tc4 w) ∧ type_of% (Tk4 w) ∧ type_of% (Tc5 w) ∧ type_of% (Tk5 w) ∧ type_of% (Tc9 w) ∧ type_of% (Tk9 w) ∧ type_of% (Tc22 w) ∧ type_of% (Tk22 w) ∧ type_of% (Tc23 w) ∧ type_of% (Tk23 w) ∧ type_of% (Tc25 w) ∧ type_of% (Tk25 w) ∧ type_of% (Tc26 w) ∧ type_of% (Tk26 w) ∧ type_of% (Tc28 w) ∧ type_of% (Tk28 w) ∧ type_of% (Tc32 w) ∧ type_of% (Tk32 w) ∧ type_of% (Tc47 w) ∧ type_of% (Tk47 w) ∧ type_of% (Tc60 w) ∧ type_of% (Tk60 w) ∧ type_of% (Tc62 w) ∧ type_of% (Tk62 w) ∧ type_of% (Tc64 w) ∧ type_of% (Tk64 w) ∧ type_of% (Tc66 w) ∧ type_of% (Tk66 w) ∧ type_of% (Tc72 w) ∧ type_of% (Tk72 w) ∧ type_of% (Tc76 w) ∧ type_of% (Tk76 w) ∧ type_of% (Tc80 w) ∧ type_of% (Tk80 w) :=
  ⟨Tc2 w, Tk2 w, Tc3 w, Tk3 w, Tc4 w, Tk4 w, Tc5 w, Tk5 w, Tc9 w, Tk9 w, Tc22 w, Tk22 w, Tc23 w, Tk23 w, Tc25 w, Tk25 w, Tc26 w, Tk26 w, Tc28 w, Tk28 w, Tc32 w, Tk32 w, Tc47 w, Tk47 w, Tc60 w, Tk60 w, Tc62 w, Tk62 w, Tc64 w, Tk64 w, Tc66 w, Tk66 w, Tc72 w, Tk72 w, Tc76 w, Tk76 w, Tc80 w, Tk80 w⟩
variable {w : Ways}
theorem Std.KF (hw : Std w) : type_of% hw.m3 ∧ type_of% hw.e3 ∧ type_of% hw.m4 ∧ type_of% hw.e4 ∧ type_of% hw.m5 ∧ type_of% hw.e5 ∧ type_of% hw.m6 ∧ type_of% hw.e6 ∧ type_of% hw.m8 ∧ type_of% hw.e8 ∧ type_of% hw.m9 ∧ type_of% hw.e9 ∧ type_of% hw.m10 ∧ type_of% hw.e10 ∧ type_of% hw.m11 ∧ type_of% hw.e11 ∧ type_of% hw.m12 ∧ type_of% hw.e12 ∧ type_of% hw.m13 ∧ type_of% hw.e13 ∧ type_of% hw.m14 ∧ type_of% hw.e14 ∧ type_of% hw.m15 ∧ type_of% hw.e15 ∧ type_of% hw.m16 ∧ type_of% hw.e16 ∧ type_of% hw.m17 ∧ type_of% hw.e17 ∧ type_of% hw.m18 ∧ type_of% hw.e18 ∧ type_of% hw.m19 ∧ type_of% hw.e19 ∧ type_of% hw.m20 ∧ type_of% hw.e20 ∧ type_of% hw.m22 ∧ type_of% hw.e22 ∧ type_of% hw.m25 ∧ type_of% hw.e25 ∧ type_of% hw.m26 ∧ type_of% hw.e26 ∧ type_of% hw.m27 ∧ type_of% hw.e27 ∧ type_of% hw.m29 ∧ type_of% hw.e29 ∧ type_of% hw.m30 ∧ type_of% hw.e30 ∧ type_of% hw.m31 ∧ type_of% hw.e31 ∧ type_of% hw.m32 ∧ type_of% hw.e32 ∧ type_of% hw.m33 ∧ type_of% hw.e33 ∧ type_of% hw.m34 ∧ type_of% hw.e34 ∧ type_of% hw.m35 ∧ type_of% hw.e35 ∧ type_of% hw.m36 ∧ type_of% hw.e36 ∧ type_of% hw.m37 ∧ type_of% hw.e37 ∧ type_of% hw.m38 ∧ type_of% hw.e38 ∧ type_of% hw.m39 ∧ type_of% hw.e39 ∧ type_of% hw.m40 ∧ type_of% hw.e40 ∧ type_of% hw.m41 ∧ type_of% hw.e41 ∧ type_of% hw.m42 ∧ type_of% hw.e42 ∧ type_of% hw.m43 ∧ type_of% hw.e43 ∧ type_of% hw.m44 ∧ type_of% hw.e44 ∧ type_of% hw.m58 ∧ type_of% hw.e58 ∧ type_of% hw.m60 ∧ type_of% hw.m61 ∧ type_of% hw.m62 ∧ type_of% hw.e62 ∧ type_of% hw.m63 ∧ type_of% hw.e63 ∧ type_of% hw.mu60 ∧ type_of% hw.mu61 ∧ type_of% hw.mu62 ∧ type_of% hw.mu12 ∧ type_of% hw.mu33 ∧ type_of% hw.mu22 ∧ type_of% hw.eq80 :=
  ⟨hw.m3, hw.e3, hw.m4, hw.e4, hw.m5, hw.e5, hw.m6, hw.e6, hw.m8, hw.e8, hw.m9, hw.e9, hw.m10, hw.e10, hw.m11, hw.e11, hw.m12, hw.e12, hw.m13, hw.e13, hw.m14, hw.e14, hw.m15, hw.e15, hw.m16, hw.e16, hw.m17, hw.e17, hw.m18, hw.e18, hw.m19, hw.e19, hw.m20, hw.e20, hw.m22, hw.e22, hw.m25, hw.e25, hw.m26, hw.e26, hw.m27, hw.e27, hw.m29, hw.e29, hw.m30, hw.e30, hw.m31, hw.e31, hw.m32, hw.e32, hw.m33, hw.e33, hw.m34, hw.e34, hw.m35, hw.e35, hw.m36, hw.e36, hw.m37, hw.e37, hw.m38, hw.e38, hw.m39, hw.e39, hw.m40, hw.e40, hw.m41, hw.e41, hw.m42, hw.e42, hw.m43, hw.e43, hw.m44, hw.e44, hw.m58, hw.e58, hw.m60, hw.m61, hw.m62, hw.e62, hw.m63, hw.e63, hw.mu60, hw.mu61, hw.mu62, hw.mu12, hw.mu33, hw.mu22, hw.eq80⟩
end Go.Am.R
