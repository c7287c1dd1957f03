/- THE SEAT'S TYPES AND FUNCTIONS AS THE ABSTRACT MACHINE SEES THEM. -/
import Derived.Test.YtghpjjhdbankhaaMf
import Derived.KernelRfl
import Derived.Test.YtghpjjhdbankhaaProg
set_option linter.unusedVariables false
namespace Go.Am.B
open Go.Proofs

noncomputable abbrev cfg (w : Ways) : Cfg := cfgP Try.prog w

theorem ty3 : tyOf Try.prog 3 = some ⟨.int .i64, 1, 8, some [.int .i64 0]⟩ := by kernel_rfl
theorem ty4 : tyOf Try.prog 4 = some ⟨.bool, 1, 1, some [.bool false]⟩ := by kernel_rfl
theorem ty9 : tyOf Try.prog 9 = some ⟨.str, 1, 16, some [.str []]⟩ := by kernel_rfl
theorem ty22 : tyOf Try.prog 22 = some ⟨.int .u64, 1, 8, some [.int .u64 0]⟩ := by kernel_rfl
theorem ty23 : tyOf Try.prog 23 = some ⟨.slice 29, 1, 24, some [.nils]⟩ := by kernel_rfl
theorem ty27 : tyOf Try.prog 27 = some ⟨.struct [(3, 0), (3, 1), (9, 2)], 3, 32, some [.int .i64 0, .int .i64 0, .str []]⟩ := by kernel_rfl
theorem ty29 : tyOf Try.prog 29 = some ⟨.struct [(3, 0), (27, 1), (3, 4), (3, 5), (3, 6)], 7, 64, some [.int .i64 0, .int .i64 0, .int .i64 0, .str [], .int .i64 0, .int .i64 0, .int .i64 0]⟩ := by kernel_rfl
theorem ty36 : tyOf Try.prog 36 = some ⟨.slice 38, 1, 24, some [.nils]⟩ := by kernel_rfl
theorem ty38 : tyOf Try.prog 38 = some ⟨.struct [(9, 0), (4, 1), (9, 2), (3, 3), (3, 4), (3, 5), (36, 6)], 7, 88, some [.str [], .bool false, .str [], .int .i64 0, .int .i64 0, .int .i64 0, .nils]⟩ := by kernel_rfl
theorem ty39 : tyOf Try.prog 39 = some ⟨.slice 3, 1, 24, some [.nils]⟩ := by kernel_rfl
theorem ty67 : tyOf Try.prog 67 = some ⟨.array 16 22, 16, 128, some [.int .u64 0, .int .u64 0, .int .u64 0, .int .u64 0, .int .u64 0, .int .u64 0, .int .u64 0, .int .u64 0, .int .u64 0, .int .u64 0, .int .u64 0, .int .u64 0, .int .u64 0, .int .u64 0, .int .u64 0, .int .u64 0]⟩ := by kernel_rfl
theorem ty69 : tyOf Try.prog 69 = some ⟨.array 10 9, 10, 160, some [.str [], .str [], .str [], .str [], .str [], .str [], .str [], .str [], .str [], .str []]⟩ := by kernel_rfl

variable (w : Ways)
theorem Tc3 : (cfg w).ty 3 = some ⟨.int .i64, 1, 8, some [.int .i64 0]⟩ := cfgP_tyd ty3
theorem Tk3 : kindOf (cfg w) 3 = .int .i64 := cfgP_kind ty3
theorem Tc4 : (cfg w).ty 4 = some ⟨.bool, 1, 1, some [.bool false]⟩ := cfgP_tyd ty4
theorem Tk4 : kindOf (cfg w) 4 = .bool := cfgP_kind ty4
theorem Tc9 : (cfg w).ty 9 = some ⟨.str, 1, 16, some [.str []]⟩ := cfgP_tyd ty9
theorem Tk9 : kindOf (cfg w) 9 = .str := cfgP_kind ty9
theorem Tc22 : (cfg w).ty 22 = some ⟨.int .u64, 1, 8, some [.int .u64 0]⟩ := cfgP_tyd ty22
theorem Tk22 : kindOf (cfg w) 22 = .int .u64 := cfgP_kind ty22
theorem Tc23 : (cfg w).ty 23 = some ⟨.slice 29, 1, 24, some [.nils]⟩ := cfgP_tyd ty23
theorem Tk23 : kindOf (cfg w) 23 = .slice 29 := cfgP_kind ty23
theorem Tc27 : (cfg w).ty 27 = some ⟨.struct [(3, 0), (3, 1), (9, 2)], 3, 32, some [.int .i64 0, .int .i64 0, .str []]⟩ := cfgP_tyd ty27
theorem Tk27 : kindOf (cfg w) 27 = .struct [(3, 0), (3, 1), (9, 2)] := cfgP_kind ty27
theorem Tc29 : (cfg w).ty 29 = some ⟨.struct [(3, 0), (27, 1), (3, 4), (3, 5), (3, 6)], 7, 64, some [.int .i64 0, .int .i64 0, .int .i64 0, .str [], .int .i64 0, .int .i64 0, .int .i64 0]⟩ := cfgP_tyd ty29
theorem Tk29 : kindOf (cfg w) 29 = .struct [(3, 0), (27, 1), (3, 4), (3, 5), (3, 6)] := cfgP_kind ty29
theorem Tc36 : (cfg w).ty 36 = some ⟨.slice 38, 1, 24, some [.nils]⟩ := cfgP_tyd ty36
theorem Tk36 : kindOf (cfg w) 36 = .slice 38 := cfgP_kind ty36
theorem Tc38 : (cfg w).ty 38 = some ⟨.struct [(9, 0), (4, 1), (9, 2), (3, 3), (3, 4), (3, 5), (36, 6)], 7, 88, some [.str [], .bool false, .str [], .int .i64 0, .int .i64 0, .int .i64 0, .nils]⟩ := cfgP_tyd ty38
theorem Tk38 : kindOf (cfg w) 38 = .struct [(9, 0), (4, 1), (9, 2), (3, 3), (3, 4), (3, 5), (36, 6)] := cfgP_kind ty38
theorem Tc39 : (cfg w).ty 39 = some ⟨.slice 3, 1, 24, some [.nils]⟩ := cfgP_tyd ty39
theorem Tk39 : kindOf (cfg w) 39 = .slice 3 := cfgP_kind ty39
theorem Tc67 : (cfg w).ty 67 = some ⟨.array 16 22, 16, 128, some [.int .u64 0, .int .u64 0, .int .u64 0, .int .u64 0, .int .u64 0, .int .u64 0, .int .u64 0, .int .u64 0, .int .u64 0, .int .u64 0, .int .u64 0, .int .u64 0, .int .u64 0, .int .u64 0, .int .u64 0, .int .u64 0]⟩ := cfgP_tyd ty67
theorem Tk67 : kindOf (cfg w) 67 = .array 16 22 := cfgP_kind ty67
theorem Tc69 : (cfg w).ty 69 = some ⟨.array 10 9, 10, 160, some [.str [], .str [], .str [], .str [], .str [], .str [], .str [], .str [], .str [], .str []]⟩ := cfgP_tyd ty69
theorem Tk69 : kindOf (cfg w) 69 = .array 10 9 := cfgP_kind ty69
theorem fn3 : (cfg w).fn 3 = some Try.f3 := cfgP_fnd Try.func3 (by decide +kernel)
theorem fn4 : (cfg w).fn 4 = some Try.f4 := cfgP_fnd Try.func4 (by decide +kernel)
theorem fn5 : (cfg w).fn 5 = some Try.f5 := cfgP_fnd Try.func5 (by decide +kernel)
theorem fn6 : (cfg w).fn 6 = some Try.f6 := cfgP_fnd Try.func6 (by decide +kernel)
theorem fn7 : (cfg w).fn 7 = some Try.f7 := cfgP_fnd Try.func7 (by decide +kernel)
theorem fn8 : (cfg w).fn 8 = some Try.f8 := cfgP_fnd Try.func8 (by decide +kernel)
theorem fn9 : (cfg w).fn 9 = some Try.f9 := cfgP_fnd Try.func9 (by decide +kernel)
theorem fn10 : (cfg w).fn 10 = some Try.f10 := cfgP_fnd Try.func10 (by decide +kernel)
theorem fn11 : (cfg w).fn 11 = some Try.f11 := cfgP_fnd Try.func11 (by decide +kernel)
theorem fn12 : (cfg w).fn 12 = some Try.f12 := cfgP_fnd Try.func12 (by decide +kernel)
theorem fn13 : (cfg w).fn 13 = some Try.f13 := cfgP_fnd Try.func13 (by decide +kernel)
theorem fn14 : (cfg w).fn 14 = some Try.f14 := cfgP_fnd Try.func14 (by decide +kernel)
theorem fn15 : (cfg w).fn 15 = some Try.f15 := cfgP_fnd Try.func15 (by decide +kernel)
theorem fn16 : (cfg w).fn 16 = some Try.f16 := cfgP_fnd Try.func16 (by decide +kernel)
theorem fn17 : (cfg w).fn 17 = some Try.f17 := cfgP_fnd Try.func17 (by decide +kernel)
theorem fn18 : (cfg w).fn 18 = some Try.f18 := cfgP_fnd Try.func18 (by decide +kernel)
theorem fn19 : (cfg w).fn 19 = some Try.f19 := cfgP_fnd Try.func19 (by decide +kernel)
theorem fn20 : (cfg w).fn 20 = some Try.f20 := cfgP_fnd Try.func20 (by decide +kernel)
theorem fn21 : (cfg w).fn 21 = some Try.f21 := cfgP_fnd Try.func21 (by decide +kernel)
theorem fn22 : (cfg w).fn 22 = some Try.f22 := cfgP_fnd Try.func22 (by decide +kernel)
theorem fn23 : (cfg w).fn 23 = some Try.f23 := cfgP_fnd Try.func23 (by decide +kernel)
theorem fn24 : (cfg w).fn 24 = some Try.f24 := cfgP_fnd Try.func24 (by decide +kernel)
theorem fn25 : (cfg w).fn 25 = some Try.f25 := cfgP_fnd Try.func25 (by decide +kernel)
theorem fn26 : (cfg w).fn 26 = some Try.f26 := cfgP_fnd Try.func26 (by decide +kernel)
theorem fn27 : (cfg w).fn 27 = some Try.f27 := cfgP_fnd Try.func27 (by decide +kernel)
theorem fn28 : (cfg w).fn 28 = some Try.f28 := cfgP_fnd Try.func28 (by decide +kernel)
theorem fn29 : (cfg w).fn 29 = some Try.f29 := cfgP_fnd Try.func29 (by decide +kernel)
theorem fn30 : (cfg w).fn 30 = some Try.f30 := cfgP_fnd Try.func30 (by decide +kernel)
theorem fn31 : (cfg w).fn 31 = some Try.f31 := cfgP_fnd Try.func31 (by decide +kernel)
theorem fn32 : (cfg w).fn 32 = some Try.f32 := cfgP_fnd Try.func32 (by decide +kernel)
theorem fn33 : (cfg w).fn 33 = some Try.f33 := cfgP_fnd Try.func33 (by decide +kernel)
theorem fn34 : (cfg w).fn 34 = some Try.f34 := cfgP_fnd Try.func34 (by decide +kernel)
theorem fn35 : (cfg w).fn 35 = some Try.f35 := cfgP_fnd Try.func35 (by decide +kernel)
theorem fn36 : (cfg w).fn 36 = some Try.f36 := cfgP_fnd Try.func36 (by decide +kernel)
theorem fn37 : (cfg w).fn 37 = some Try.f37 := cfgP_fnd Try.func37 (by decide +kernel)
theorem fn38 : (cfg w).fn 38 = some Try.f38 := cfgP_fnd Try.func38 (by decide +kernel)
theorem fn39 : (cfg w).fn 39 = some Try.f39 := cfgP_fnd Try.func39 (by decide +kernel)
theorem fn40 : (cfg w).fn 40 = some Try.f40 := cfgP_fnd Try.func40 (by decide +kernel)
theorem fn41 : (cfg w).fn 41 = some Try.f41 := cfgP_fnd Try.func41 (by decide +kernel)
theorem fn42 : (cfg w).fn 42 = some Try.f42 := cfgP_fnd Try.func42 (by decide +kernel)
theorem fn43 : (cfg w).fn 43 = some Try.f43 := cfgP_fnd Try.func43 (by decide +kernel)
theorem fn44 : (cfg w).fn 44 = some Try.f44 := cfgP_fnd Try.func44 (by decide +kernel)
theorem fn45 : (cfg w).fn 45 = some Try.f45 := cfgP_fnd Try.func45 (by decide +kernel)
theorem fn46 : (cfg w).fn 46 = some Try.f46 := cfgP_fnd Try.func46 (by decide +kernel)
theorem fn47 : (cfg w).fn 47 = some Try.f47 := cfgP_fnd Try.func47 (by decide +kernel)
theorem fn48 : (cfg w).fn 48 = some Try.f48 := cfgP_fnd Try.func48 (by decide +kernel)
theorem fn49 : (cfg w).fn 49 = some Try.f49 := cfgP_fnd Try.func49 (by decide +kernel)
theorem fn50 : (cfg w).fn 50 = some Try.f50 := cfgP_fnd Try.func50 (by decide +kernel)
theorem fn51 : (cfg w).fn 51 = some Try.f51 := cfgP_fnd Try.func51 (by decide +kernel)
theorem fn52 : (cfg w).fn 52 = some Try.f52 := cfgP_fnd Try.func52 (by decide +kernel)
theorem fn53 : (cfg w).fn 53 = some Try.f53 := cfgP_fnd Try.func53 (by decide +kernel)
theorem fn54 : (cfg w).fn 54 = some Try.f54 := cfgP_fnd Try.func54 (by decide +kernel)
theorem fn55 : (cfg w).fn 55 = some Try.f55 := cfgP_fnd Try.func55 (by decide +kernel)
theorem fn56 : (cfg w).fn 56 = some Try.f56 := cfgP_fnd Try.func56 (by decide +kernel)
theorem fn57 : (cfg w).fn 57 = some Try.f57 := cfgP_fnd Try.func57 (by decide +kernel)
theorem fn58 : (cfg w).fn 58 = some Try.f58 := cfgP_fnd Try.func58 (by decide +kernel)
theorem fn59 : (cfg w).fn 59 = some Try.f59 := cfgP_fnd Try.func59 (by decide +kernel)
theorem fn60 : (cfg w).fn 60 = some Try.f60 := cfgP_fnd Try.func60 (by decide +kernel)
theorem fn61 : (cfg w).fn 61 = some Try.f61 := cfgP_fnd Try.func61 (by decide +kernel)
theorem fn62 : (cfg w).fn 62 = some Try.f62 := cfgP_fnd Try.func62 (by decide +kernel)
theorem fn63 : (cfg w).fn 63 = some Try.f63 := cfgP_fnd Try.func63 (by decide +kernel)
theorem fn64 : (cfg w).fn 64 = some Try.f64 := cfgP_fnd Try.func64 (by decide +kernel)
theorem fn65 : (cfg w).fn 65 = some Try.f65 := cfgP_fnd Try.func65 (by decide +kernel)
theorem fn66 : (cfg w).fn 66 = some Try.f66 := cfgP_fnd Try.func66 (by decide +kernel)
theorem fn67 : (cfg w).fn 67 = some Try.f67 := cfgP_fnd Try.func67 (by decide +kernel)
theorem fn68 : (cfg w).fn 68 = some Try.f68 := cfgP_fnd Try.func68 (by decide +kernel)
theorem fn69 : (cfg w).fn 69 = some Try.f69 := cfgP_fnd Try.func69 (by decide +kernel)
theorem fn70 : (cfg w).fn 70 = some Try.f70 := cfgP_fnd Try.func70 (by decide +kernel)
theorem fn71 : (cfg w).fn 71 = some Try.f71 := cfgP_fnd Try.func71 (by decide +kernel)
theorem fn72 : (cfg w).fn 72 = some Try.f72 := cfgP_fnd Try.func72 (by decide +kernel)
theorem fn73 : (cfg w).fn 73 = some Try.f73 := cfgP_fnd Try.func73 (by decide +kernel)
theorem fn74 : (cfg w).fn 74 = some Try.f74 := cfgP_fnd Try.func74 (by decide +kernel)
theorem fn75 : (cfg w).fn 75 = some Try.f75 := cfgP_fnd Try.func75 (by decide +kernel)
theorem fn76 : (cfg w).fn 76 = some Try.f76 := cfgP_fnd Try.func76 (by decide +kernel)
theorem fn77 : (cfg w).fn 77 = some Try.f77 := cfgP_fnd Try.func77 (by decide +kernel)
theorem fn78 : (cfg w).fn 78 = some Try.f78 := cfgP_fnd Try.func78 (by decide +kernel)
theorem fn79 : (cfg w).fn 79 = some Try.f79 := cfgP_fnd Try.func79 (by decide +kernel)
theorem fn80 : (cfg w).fn 80 = some Try.f80 := cfgP_fnd Try.func80 (by decide +kernel)
theorem fn81 : (cfg w).fn 81 = some Try.f81 := cfgP_fnd Try.func81 (by decide +kernel)
theorem fn82 : (cfg w).fn 82 = some Try.f82 := cfgP_fnd Try.func82 (by decide +kernel)
theorem fn83 : (cfg w).fn 83 = some Try.f83 := cfgP_fnd Try.func83 (by decide +kernel)
theorem fn84 : (cfg w).fn 84 = some Try.f84 := cfgP_fnd Try.func84 (by decide +kernel)
theorem fn85 : (cfg w).fn 85 = some Try.f85 := cfgP_fnd Try.func85 (by decide +kernel)
theorem fn86 : (cfg w).fn 86 = some Try.f86 := cfgP_fnd Try.func86 (by decide +kernel)
theorem fn87 : (cfg w).fn 87 = some Try.f87 := cfgP_fnd Try.func87 (by decide +kernel)
theorem fn88 : (cfg w).fn 88 = some Try.f88 := cfgP_fnd Try.func88 (by decide +kernel)
theorem fn89 : (cfg w).fn 89 = some Try.f89 := cfgP_fnd Try.func89 (by decide +kernel)
theorem fn90 : (cfg w).fn 90 = some Try.f90 := cfgP_fnd Try.func90 (by decide +kernel)
theorem fn91 : (cfg w).fn 91 = some Try.f91 := cfgP_fnd Try.func91 (by decide +kernel)
theorem fn92 : (cfg w).fn 92 = some Try.f92 := cfgP_fnd Try.func92 (by decide +kernel)
theorem fn93 : (cfg w).fn 93 = some Try.f93 := cfgP_fnd Try.func93 (by decide +kernel)
theorem fn94 : (cfg w).fn 94 = some Try.f94 := cfgP_fnd Try.func94 (by decide +kernel)
theorem fn95 : (cfg w).fn 95 = some Try.f95 := cfgP_fnd Try.func95 (by decide +kernel)
theorem fn96 : (cfg w).fn 96 = some Try.f96 := cfgP_fnd Try.func96 (by decide +kernel)
theorem fn97 : (cfg w).fn 97 = some Try.f97 := cfgP_fnd Try.func97 (by decide +kernel)
theorem fn98 : (cfg w).fn 98 = some Try.f98 := cfgP_fnd Try.func98 (by decide +kernel)
theorem fn99 : (cfg w).fn 99 = some Try.f99 := cfgP_fnd Try.func99 (by decide +kernel)
theorem fn100 : (cfg w).fn 100 = some Try.f100 := cfgP_fnd Try.func100 (by decide +kernel)
theorem fn101 : (cfg w).fn 101 = some Try.f101 := cfgP_fnd Try.func101 (by decide +kernel)
/-- How some functions are called that look at plain data alone. -/
structure StdB : Prop where
  m26 : w.mode 26 = .pure
  e26 : w.ext 26 = none
  m30 : w.mode 30 = .pure
  e30 : w.ext 30 = none
structure Std : Prop extends StdB w where
  m3 : w.mode 3 = .pure
  e3 : w.ext 3 = none
  m4 : w.mode 4 = .pure
  e4 : w.ext 4 = none
  m6 : w.mode 6 = .pure
  e6 : w.ext 6 = none
  m7 : w.mode 7 = .pure
  e7 : w.ext 7 = none
  m8 : w.mode 8 = .pure
  e8 : w.ext 8 = none
  m9 : w.mode 9 = .pure
  e9 : w.ext 9 = none
  m10 : w.mode 10 = .pure
  e10 : w.ext 10 = none
  m11 : w.mode 11 = .pure
  e11 : w.ext 11 = none
  m12 : w.mode 12 = .pure
  e12 : w.ext 12 = none
  m13 : w.mode 13 = .pure
  e13 : w.ext 13 = none
  m14 : w.mode 14 = .pure
  e14 : w.ext 14 = none
  m5 : w.mode 5 = .pure
  e5 : w.ext 5 = none
  m24 : w.mode 24 = .pure
  e24 : w.ext 24 = none
  m15 : w.mode 15 = .pure
  e15 : w.ext 15 = none
  m16 : w.mode 16 = .pure
  e16 : w.ext 16 = none
  m17 : w.mode 17 = .pure
  e17 : w.ext 17 = none
  m18 : w.mode 18 = .pure
  e18 : w.ext 18 = none
  m19 : w.mode 19 = .pure
  e19 : w.ext 19 = none
  m20 : w.mode 20 = .pure
  e20 : w.ext 20 = none
  m21 : w.mode 21 = .pure
  e21 : w.ext 21 = none
  m22 : w.mode 22 = .pure
  e22 : w.ext 22 = none
  m25 : w.mode 25 = .pure
  e25 : w.ext 25 = none
  m27 : w.mode 27 = .pure
  e27 : w.ext 27 = none
  m28 : w.mode 28 = .pure
  e28 : w.ext 28 = none
  m29 : w.mode 29 = .pure
  e29 : w.ext 29 = none
  m31 : w.mode 31 = .pure
  e31 : w.ext 31 = none
  m32 : w.mode 32 = .pure
  e32 : w.ext 32 = none
  m33 : w.mode 33 = .pure
  e33 : w.ext 33 = none
  m34 : w.mode 34 = .pure
  e34 : w.ext 34 = none
  m35 : w.mode 35 = .pure
  e35 : w.ext 35 = none
  m36 : w.mode 36 = .pure
  e36 : w.ext 36 = none
  m39 : w.mode 39 = .pure
  e39 : w.ext 39 = none
  m40 : w.mode 40 = .pure
  e40 : w.ext 40 = none
  m42 : w.mode 42 = .pure
  e42 : w.ext 42 = none
  m44 : w.mode 44 = .pure
  e44 : w.ext 44 = none
  m45 : w.mode 45 = .pure
  e45 : w.ext 45 = none
  m46 : w.mode 46 = .pure
  e46 : w.ext 46 = none
  m47 : w.mode 47 = .pure
  e47 : w.ext 47 = none
  m48 : w.mode 48 = .pure
  e48 : w.ext 48 = none
  m49 : w.mode 49 = .pure
  e49 : w.ext 49 = none
  m50 : w.mode 50 = .pure
  e50 : w.ext 50 = none
  m51 : w.mode 51 = .pure
  e51 : w.ext 51 = none
  m52 : w.mode 52 = .pure
  e52 : w.ext 52 = none
  m53 : w.mode 53 = .pure
  e53 : w.ext 53 = none
  m54 : w.mode 54 = .pure
  e54 : w.ext 54 = none
  m55 : w.mode 55 = .pure
  e55 : w.ext 55 = none
  m56 : w.mode 56 = .pure
  e56 : w.ext 56 = none
  m57 : w.mode 57 = .pure
  e57 : w.ext 57 = none
  m58 : w.mode 58 = .pure
  e58 : w.ext 58 = none
  m59 : w.mode 59 = .pure
  e59 : w.ext 59 = none
  m60 : w.mode 60 = .pure
  e60 : w.ext 60 = none
  m61 : w.mode 61 = .pure
  e61 : w.ext 61 = none
  m62 : w.mode 62 = .pure
  e62 : w.ext 62 = none
  m63 : w.mode 63 = .pure
  e63 : w.ext 63 = none
  m64 : w.mode 64 = .pure
  e64 : w.ext 64 = none
  m65 : w.mode 65 = .pure
  e65 : w.ext 65 = none
  m66 : w.mode 66 = .pure
  e66 : w.ext 66 = none
  m69 : w.mode 69 = .pure
  e69 : w.ext 69 = none
  m71 : w.mode 71 = .raw
  e71 : w.ext 71 = none
  m72 : w.mode 72 = .pure
  e72 : w.ext 72 = none
  m78 : w.mode 78 = .pure
  e78 : w.ext 78 = none
  m80 : w.mode 80 = .pure
  e80 : w.ext 80 = none
  m81 : w.mode 81 = .pure
  e81 : w.ext 81 = none
  m82 : w.mode 82 = .pure
  e82 : w.ext 82 = none
  m85 : w.mode 85 = .pure
  e85 : w.ext 85 = none
  m88 : w.mode 88 = .pure
  e88 : w.ext 88 = none
  m93 : w.mode 93 = .pure
  e93 : w.ext 93 = none
  m99 : w.mode 99 = .pure
  e99 : w.ext 99 = none
  m89 : w.mode 89 = .raw
  e89 : w.ext 89 = none
  m97 : w.mode 97 = .raw
  e97 : w.ext 97 = none
  m70 : w.mode 70 = .raw
  e70 : w.ext 70 = none
  m91 : w.mode 91 = .raw
  e91 : w.ext 91 = none
  m92 : w.mode 92 = .raw
  e92 : w.ext 92 = none
  m83 : w.mode 83 = .raw
  e83 : w.ext 83 = none
  m94 : w.mode 94 = .raw
  e94 : w.ext 94 = none
  m95 : w.mode 95 = .raw
  e95 : w.ext 95 = none
  m37 : w.mode 37 = .raw
  e37 : w.ext 37 = none
  m73 : w.mode 73 = .temp
  e73 : w.ext 73 = none
  m74 : w.mode 74 = .temp
  e74 : w.ext 74 = none
  m84 : w.mode 84 = .temp
  e84 : w.ext 84 = none
  muf : ∀ f r, f ≠ 86 → f ≠ 50 → w.muts f r = false
  eq29 : w.eqt 29 = true
/-- .. and these on plain data, too. -/
structure Std1 : Prop extends Std w where
  m38 : w.mode 38 = .pure
  e38 : w.ext 38 = none
  m41 : w.mode 41 = .pure
  e41 : w.ext 41 = none
  m43 : w.mode 43 = .pure
  e43 : w.ext 43 = none
  m79 : w.mode 79 = .pure
  e79 : w.ext 79 = none
  m76 : w.mode 76 = .pure
  e76 : w.ext 76 = none
  m75 : w.mode 75 = .pure
  e75 : w.ext 75 = none
end Go.Am.B
