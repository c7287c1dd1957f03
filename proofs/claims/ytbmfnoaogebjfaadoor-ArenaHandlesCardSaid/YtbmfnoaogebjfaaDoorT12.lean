/- HOW THE FUNCTIONS ARE CALLED. -/
import Derived.Test.YtbmfnoaogebjfaaDoorT10
import Derived.Test.YtbmfnoaogebjfaaDoorT11
set_option linter.unusedSimpArgs false
set_option linter.unusedVariables false
namespace Go.Am.R
open Go.Proofs

def modeA (f : FuncId) : CM := if [32, 33, 34, 35, 36, 38, 40, 60, 61, 62].contains f then .raw else .pure
def extA0 (f : FuncId) : Option XT := if f = 46 then some (.val keyF) else none
def extA (f : FuncId) : Option XT := if f = 46 then some (.val keyF) else if f = 60 then some (.push (cloneF 10 128)) else if f = 61 then some (.push (cloneF 1 8)) else none
def mutsA (f r : Nat) : Bool := [5, 12, 60, 61, 62].contains f
def vw0 : Ways := ⟨modeA, extA0, mutsA, fun t => t == 80⟩
def vw : Ways := ⟨modeA, extA, mutsA, fun t => t == 80⟩
theorem stdV0 : Std vw0 := by constructor <;> first | rfl | (exact fun r => rfl)
theorem stdV : Std vw := by constructor <;> first | rfl | (exact fun r => rfl)
end Go.Am.R
