/- THE EXAMPLE, by the kernel. -/
import Derived.Test.YtbmfnoaogebjfaaDoorT12
set_option linter.unusedVariables false
namespace Go.Am.R
open Go.Proofs
theorem aw11 : ((run (cfg vw) 60).call 11 [] St.nil).map Prod.fst = some (.bool true) := by kernel_rfl
theorem awake11 : PC (cfg vw) 11 [] (.bool true) := by
  have h := aw11
  simp only [Option.map_eq_some_iff] at h
  obtain ⟨⟨r, S⟩, h1, h2⟩ := h
  refine PC_of (args' := []) stdV.e11 stdV.m11 rfl ⟨r, S, lim_of_run h1, ?_⟩
  simp only at h2
  subst h2
  exact FZ_bool
end Go.Am.R
