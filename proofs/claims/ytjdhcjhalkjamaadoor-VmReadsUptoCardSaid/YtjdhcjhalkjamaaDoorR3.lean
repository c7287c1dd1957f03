/- THE EXAMPLE, by the kernel. -/
import Derived.Test.YtjdhcjhalkjamaaDoorR2
set_option linter.unusedVariables false
namespace Go.Am.V
open Go.Proofs
theorem aw13 : ((run (cfg vw) 60).call 13 [] St.nil).map Prod.fst = some (.bool true) := by kernel_rfl
theorem awake13 : PC (cfg vw) 13 [] (.bool true) := by
  have h := aw13
  simp only [Option.map_eq_some_iff] at h
  obtain ⟨⟨r, S⟩, h1, h2⟩ := h
  refine PC_of (args' := []) stdV.e13 stdV.m13 rfl ⟨r, S, lim_of_run h1, ?_⟩
  simp only at h2
  subst h2
  exact FZ_bool
end Go.Am.V
