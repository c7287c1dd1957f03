/- THE ABSTRACT MACHINE, THIRTY-SEVENTH FILE: a program's types and functions as the machine sees them. -/
import Derived.Test.YtghpjjhdbankhaaAm35
set_option linter.unusedVariables false
namespace Go.Am

/-- How the functions are called. -/
structure Ways where
  mode : FuncId → CM
  ext : FuncId → Option XT
  muts : FuncId → Nat → Bool
  eqt : TypeId → Bool

noncomputable def cfgP (P : Program) (w : Ways) : Cfg :=
  ⟨tyOf P, fun f => match P.funcs[f]? with | some g => if (g.name == "runtime.NumGoroutine") = true then none else some g | none => none, w.mode, w.ext, w.muts, w.eqt⟩

variable (P : Program) (w : Ways)
theorem cfgP_ty : (cfgP P w).ty = tyOf P := (rfl)
theorem cfgP_mode : (cfgP P w).mode = w.mode := (rfl)
theorem cfgP_ext : (cfgP P w).ext = w.ext := (rfl)
theorem cfgP_muts : (cfgP P w).muts = w.muts := (rfl)
theorem cfgP_eqt : (cfgP P w).eqt = w.eqt := (rfl)
variable {P w}
theorem cfgP_fnd {f : FuncId} {g : Func} (h : P.funcs[f]? = some g) (k : (g.name == "runtime.NumGoroutine") = false) : (cfgP P w).fn f = some g := by
  show (match P.funcs[f]? with | some g => if (g.name == "runtime.NumGoroutine") = true then none else some g | none => none) = _
  rw [h]
  simp [k]
theorem cfgP_fn {f : FuncId} {g : Func} (h : (cfgP P w).fn f = some g) : P.funcs[f]? = some g ∧ (g.name == "runtime.NumGoroutine") = false := by
  have h' : (match P.funcs[f]? with | some g => if (g.name == "runtime.NumGoroutine") = true then none else some g | none => none) = some g := h
  split at h'
  · rename_i g' hg
    split at h'
    · simp at h'
    · rename_i hn
      simp only [Option.some.injEq] at h'
      subst h'
      exact ⟨hg, by simpa using hn⟩
  · simp at h'
theorem cfgP_tyd {t : TypeId} {i : Ty} (h : tyOf P t = some i) : (cfgP P w).ty t = some i := by rw [cfgP_ty]; exact h
theorem cfgP_kind {t : TypeId} {i : Ty} (h : tyOf P t = some i) : kindOf (cfgP P w) t = i.kind := by unfold kindOf; rw [cfgP_tyd h]
end Go.Am
