/- MORE TYPES OF THE SEAT. -/
import Derived.Test.YtghpjjhdbankhaaS0
set_option linter.unusedVariables false
namespace Go.Am.B
open Go.Proofs
theorem ty41 : tyOf Try.prog 41 = some ⟨.slice 39, 1, 24, some [.nils]⟩ := by kernel_rfl
theorem ty50 : tyOf Try.prog 50 = some ⟨.func, 1, 8, some [.nilf]⟩ := by kernel_rfl
theorem ty55 : tyOf Try.prog 55 = some ⟨.func, 1, 8, some [.nilf]⟩ := by kernel_rfl
theorem ty56 : tyOf Try.prog 56 = some ⟨.func, 1, 8, some [.nilf]⟩ := by kernel_rfl
theorem ty61 : tyOf Try.prog 61 = some ⟨.int .u16, 1, 2, some [.int .u16 0]⟩ := by kernel_rfl
theorem ty74 : tyOf Try.prog 74 = some ⟨.slice 9, 1, 24, some [.nils]⟩ := by kernel_rfl
theorem ty88 : tyOf Try.prog 88 = some ⟨.func, 1, 8, some [.nilf]⟩ := by kernel_rfl
theorem ty97 : tyOf Try.prog 97 = some ⟨.func, 1, 8, some [.nilf]⟩ := by kernel_rfl
theorem ty105 : tyOf Try.prog 105 = some ⟨.func, 1, 8, some [.nilf]⟩ := by kernel_rfl
theorem ty107 : tyOf Try.prog 107 = some ⟨.func, 1, 8, some [.nilf]⟩ := by kernel_rfl
variable (w : Ways)
theorem Tc41 : (cfg w).ty 41 = some ⟨.slice 39, 1, 24, some [.nils]⟩ := cfgP_tyd ty41
theorem Tk41 : kindOf (cfg w) 41 = .slice 39 := cfgP_kind ty41
theorem Tc50 : (cfg w).ty 50 = some ⟨.func, 1, 8, some [.nilf]⟩ := cfgP_tyd ty50
theorem Tk50 : kindOf (cfg w) 50 = .func := cfgP_kind ty50
theorem Tc55 : (cfg w).ty 55 = some ⟨.func, 1, 8, some [.nilf]⟩ := cfgP_tyd ty55
theorem Tk55 : kindOf (cfg w) 55 = .func := cfgP_kind ty55
theorem Tc56 : (cfg w).ty 56 = some ⟨.func, 1, 8, some [.nilf]⟩ := cfgP_tyd ty56
theorem Tk56 : kindOf (cfg w) 56 = .func := cfgP_kind ty56
theorem Tc61 : (cfg w).ty 61 = some ⟨.int .u16, 1, 2, some [.int .u16 0]⟩ := cfgP_tyd ty61
theorem Tk61 : kindOf (cfg w) 61 = .int .u16 := cfgP_kind ty61
theorem Tc74 : (cfg w).ty 74 = some ⟨.slice 9, 1, 24, some [.nils]⟩ := cfgP_tyd ty74
theorem Tk74 : kindOf (cfg w) 74 = .slice 9 := cfgP_kind ty74
theorem Tc88 : (cfg w).ty 88 = some ⟨.func, 1, 8, some [.nilf]⟩ := cfgP_tyd ty88
theorem Tk88 : kindOf (cfg w) 88 = .func := cfgP_kind ty88
theorem Tc97 : (cfg w).ty 97 = some ⟨.func, 1, 8, some [.nilf]⟩ := cfgP_tyd ty97
theorem Tk97 : kindOf (cfg w) 97 = .func := cfgP_kind ty97
theorem Tc105 : (cfg w).ty 105 = some ⟨.func, 1, 8, some [.nilf]⟩ := cfgP_tyd ty105
theorem Tk105 : kindOf (cfg w) 105 = .func := cfgP_kind ty105
theorem Tc107 : (cfg w).ty 107 = some ⟨.func, 1, 8, some [.nilf]⟩ := cfgP_tyd ty107
theorem Tk107 : kindOf (cfg w) 107 = .func := cfgP_kind ty107
end Go.Am.B
