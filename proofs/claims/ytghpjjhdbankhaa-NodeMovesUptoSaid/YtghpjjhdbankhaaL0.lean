/- HOW MANY LETTERS A TREE HAS. -/
import Derived.Test.YtghpjjhdbankhaaN0
set_option linter.unusedVariables false
namespace Go.Am.B
mutual
def letN : Node → Nat
  | .mk k _ fl _ _ _ ks => k.length + fl.length + letL ks
def letL : List Node → Nat
  | [] => 0
  | k :: ks => letN k + letL ks
end
theorem letN_eq (n : Node) : letN n = n.kind.length + n.field.length + letL n.kids := by cases n; rw [letN]; rfl
end Go.Am.B
