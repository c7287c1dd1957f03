/-
  NARROWER THAN 'FOR EVERY INPUT', by the rows' own cells (each row's printed sentence says how): CursorOrder: loops · CursorWalks: loops · CursorFields: loops · CursorGoes: loops · CursorBack: loops · NodeLeaves: loops · NodeLeast: loops · NodeWider: loops · NodeMoves: loops · NodeFinds: loops.
  DERIVED. THE GIVEN ROWS OF THIS SEAT. 12 by the template 'for every input the law returns true; each argument reads behind the call as it read before'; 0 by the template 'total and deterministic' (their statements: YtghpjjhdbankhaaTotals.lean).
  GIVEN WITH THE SEED: the statements are not yours to turn. If you find one false, say at which input.
  Laid BY PROGRAM, IN A SANDBOX (cutbox-rows.mjs): the forced cells as the released guide's own fill.sh prints them over the translation 3021769447bf2b9d… (all of the seat's roots in one cut). By AI agents, Wed Nov 11 2026. No macro, syntax, notation, axiom, sorry.
-/
import Derived.Test.YtghpjjhdbankhaaChecked
import GoSem.Claim
import GoSem.ClaimJoined
import GoSem.ClaimMapViews
import Derived.JoinedTies
import Derived.KernelRfl
namespace Go.Proofs.Ytghpjjhdbankhaa
/- THE CELL 'sum', in the pinned program and in every row, IS THE sha256 OF THE DUMP (.gsa) THAT YtghpjjhdbankhaaProg.lean LOADS. Nothing in Lean hashes anything: it is a label: what it is worth is what the hold of that sum in a sandbox is worth. -/
noncomputable def Try.pinned : Pinned := { name := "ytghpjjhdbankhaa", sum := "3021769447bf2b9d08a69ea1eb210f6aa585057caef29decd61dace655b639af", checked := Try.checked }
namespace Rows
def none {H : Type} : Left H := { results := [], args := [] }

/-- 'bramblelaw28.GenOps': WHATEVER THE INPUT: true; the input reads as it did. -/
def genOpsSpec : ChangeSpec := { name := "genOps", fn := fun _ => fun
  | [d1, d2, d3] => { results := [.lit (.bool true)], args := [d1, d2, d3] }
  | _ => none }
def genOpsRow : OpenClaim := { program := "ytghpjjhdbankhaa", sum := "3021769447bf2b9d08a69ea1eb210f6aa585057caef29decd61dace655b639af", func := "bramble/bramblelaw28.GenOps", spec := "genOps", unfollowed := true, recurses := true, apart := false }
def GenOpsSaid : Prop := genOpsRow.holds Try.pinned (OpenSpec.ofChange genOpsSpec)

/-- ITS FALSE NEIGHBOUR: 'it returns false'. Refute it at one input. -/
def genOpsWrong : ChangeSpec := { name := "genOps", fn := fun _ => fun
  | [d1, d2, d3] => { results := [.lit (.bool false)], args := [d1, d2, d3] }
  | _ => none }
def GenOpsWrongFalsely : Prop := genOpsRow.holds Try.pinned (OpenSpec.ofChange genOpsWrong)

/-- 'bramblelaw28.GenMakes': WHATEVER THE INPUT: true; the input reads as it did. -/
def genMakesSpec : ChangeSpec := { name := "genMakes", fn := fun _ => fun
  | [d1, d2] => { results := [.lit (.bool true)], args := [d1, d2] }
  | _ => none }
def genMakesRow : OpenClaim := { program := "ytghpjjhdbankhaa", sum := "3021769447bf2b9d08a69ea1eb210f6aa585057caef29decd61dace655b639af", func := "bramble/bramblelaw28.GenMakes", spec := "genMakes", inPlace := ["internal/abi.NoEscape"], unfollowed := true, recurses := true, apart := false }
def GenMakesSaid : Prop := genMakesRow.holds Try.pinned (OpenSpec.ofChange genMakesSpec)

/-- ITS FALSE NEIGHBOUR: 'it returns false'. Refute it at one input. -/
def genMakesWrong : ChangeSpec := { name := "genMakes", fn := fun _ => fun
  | [d1, d2] => { results := [.lit (.bool false)], args := [d1, d2] }
  | _ => none }
def GenMakesWrongFalsely : Prop := genMakesRow.holds Try.pinned (OpenSpec.ofChange genMakesWrong)

/-- 'bramblelaw21.CursorOrder': WHATEVER THE INPUT: true; the input reads as it did. -/
def cursorOrderSpec : ChangeSpec := { name := "cursorOrder", fn := fun _ => fun
  | [d1, d2, d3] => { results := [.lit (.bool true)], args := [d1, d2, d3] }
  | _ => none }
def cursorOrderRow : OpenClaim := { program := "ytghpjjhdbankhaa", sum := "3021769447bf2b9d08a69ea1eb210f6aa585057caef29decd61dace655b639af", func := "bramble/bramblelaw21.CursorOrder", spec := "cursorOrder", unfollowed := true, recurses := true, loops := true, apart := false }
def CursorOrderSaid : Prop := cursorOrderRow.holds Try.pinned (OpenSpec.ofChange cursorOrderSpec)

/-- ITS FALSE NEIGHBOUR: 'it returns false'. Refute it at one input. -/
def cursorOrderWrong : ChangeSpec := { name := "cursorOrder", fn := fun _ => fun
  | [d1, d2, d3] => { results := [.lit (.bool false)], args := [d1, d2, d3] }
  | _ => none }
def CursorOrderWrongFalsely : Prop := cursorOrderRow.holds Try.pinned (OpenSpec.ofChange cursorOrderWrong)

/-- 'bramblelaw21.CursorWalks': WHATEVER THE INPUT: true; the input reads as it did. -/
def cursorWalksSpec : ChangeSpec := { name := "cursorWalks", fn := fun _ => fun
  | [d] => { results := [.lit (.bool true)], args := [d] }
  | _ => none }
def cursorWalksRow : OpenClaim := { program := "ytghpjjhdbankhaa", sum := "3021769447bf2b9d08a69ea1eb210f6aa585057caef29decd61dace655b639af", func := "bramble/bramblelaw21.CursorWalks", spec := "cursorWalks", unfollowed := true, recurses := true, loops := true, apart := false }
def CursorWalksSaid : Prop := cursorWalksRow.holds Try.pinned (OpenSpec.ofChange cursorWalksSpec)

/-- ITS FALSE NEIGHBOUR: 'it returns false'. Refute it at one input. -/
def cursorWalksWrong : ChangeSpec := { name := "cursorWalks", fn := fun _ => fun
  | [d] => { results := [.lit (.bool false)], args := [d] }
  | _ => none }
def CursorWalksWrongFalsely : Prop := cursorWalksRow.holds Try.pinned (OpenSpec.ofChange cursorWalksWrong)

/-- 'bramblelaw21.CursorFields': WHATEVER THE INPUT: true; the input reads as it did. -/
def cursorFieldsSpec : ChangeSpec := { name := "cursorFields", fn := fun _ => fun
  | [d1, d2, d3] => { results := [.lit (.bool true)], args := [d1, d2, d3] }
  | _ => none }
def cursorFieldsRow : OpenClaim := { program := "ytghpjjhdbankhaa", sum := "3021769447bf2b9d08a69ea1eb210f6aa585057caef29decd61dace655b639af", func := "bramble/bramblelaw21.CursorFields", spec := "cursorFields", unfollowed := true, recurses := true, loops := true, apart := false }
def CursorFieldsSaid : Prop := cursorFieldsRow.holds Try.pinned (OpenSpec.ofChange cursorFieldsSpec)

/-- ITS FALSE NEIGHBOUR: 'it returns false'. Refute it at one input. -/
def cursorFieldsWrong : ChangeSpec := { name := "cursorFields", fn := fun _ => fun
  | [d1, d2, d3] => { results := [.lit (.bool false)], args := [d1, d2, d3] }
  | _ => none }
def CursorFieldsWrongFalsely : Prop := cursorFieldsRow.holds Try.pinned (OpenSpec.ofChange cursorFieldsWrong)

/-- 'bramblelaw21.CursorGoes': WHATEVER THE INPUT: true; the input reads as it did. -/
def cursorGoesSpec : ChangeSpec := { name := "cursorGoes", fn := fun _ => fun
  | [d1, d2, d3] => { results := [.lit (.bool true)], args := [d1, d2, d3] }
  | _ => none }
def cursorGoesRow : OpenClaim := { program := "ytghpjjhdbankhaa", sum := "3021769447bf2b9d08a69ea1eb210f6aa585057caef29decd61dace655b639af", func := "bramble/bramblelaw21.CursorGoes", spec := "cursorGoes", unfollowed := true, recurses := true, loops := true, apart := false }
def CursorGoesSaid : Prop := cursorGoesRow.holds Try.pinned (OpenSpec.ofChange cursorGoesSpec)

/-- ITS FALSE NEIGHBOUR: 'it returns false'. Refute it at one input. -/
def cursorGoesWrong : ChangeSpec := { name := "cursorGoes", fn := fun _ => fun
  | [d1, d2, d3] => { results := [.lit (.bool false)], args := [d1, d2, d3] }
  | _ => none }
def CursorGoesWrongFalsely : Prop := cursorGoesRow.holds Try.pinned (OpenSpec.ofChange cursorGoesWrong)

/-- 'bramblelaw21.CursorBack': WHATEVER THE INPUT: true; the input reads as it did. -/
def cursorBackSpec : ChangeSpec := { name := "cursorBack", fn := fun _ => fun
  | [d1, d2] => { results := [.lit (.bool true)], args := [d1, d2] }
  | _ => none }
def cursorBackRow : OpenClaim := { program := "ytghpjjhdbankhaa", sum := "3021769447bf2b9d08a69ea1eb210f6aa585057caef29decd61dace655b639af", func := "bramble/bramblelaw21.CursorBack", spec := "cursorBack", unfollowed := true, recurses := true, loops := true, apart := false }
def CursorBackSaid : Prop := cursorBackRow.holds Try.pinned (OpenSpec.ofChange cursorBackSpec)

/-- ITS FALSE NEIGHBOUR: 'it returns false'. Refute it at one input. -/
def cursorBackWrong : ChangeSpec := { name := "cursorBack", fn := fun _ => fun
  | [d1, d2] => { results := [.lit (.bool false)], args := [d1, d2] }
  | _ => none }
def CursorBackWrongFalsely : Prop := cursorBackRow.holds Try.pinned (OpenSpec.ofChange cursorBackWrong)

/-- 'bramblelaw14.NodeLeaves': WHATEVER THE INPUT: true; the input reads as it did. -/
def nodeLeavesSpec : ChangeSpec := { name := "nodeLeaves", fn := fun _ => fun
  | [d1, d2] => { results := [.lit (.bool true)], args := [d1, d2] }
  | _ => none }
def nodeLeavesRow : OpenClaim := { program := "ytghpjjhdbankhaa", sum := "3021769447bf2b9d08a69ea1eb210f6aa585057caef29decd61dace655b639af", func := "bramble/bramblelaw14.NodeLeaves", spec := "nodeLeaves", inPlace := ["internal/abi.NoEscape", "internal/bytealg.MakeNoZero"], unfollowed := true, recurses := true, loops := true, apart := false }
def NodeLeavesSaid : Prop := nodeLeavesRow.holds Try.pinned (OpenSpec.ofChange nodeLeavesSpec)

/-- ITS FALSE NEIGHBOUR: 'it returns false'. Refute it at one input. -/
def nodeLeavesWrong : ChangeSpec := { name := "nodeLeaves", fn := fun _ => fun
  | [d1, d2] => { results := [.lit (.bool false)], args := [d1, d2] }
  | _ => none }
def NodeLeavesWrongFalsely : Prop := nodeLeavesRow.holds Try.pinned (OpenSpec.ofChange nodeLeavesWrong)

/-- 'bramblelaw14.NodeLeast': WHATEVER THE INPUT: true; the input reads as it did. -/
def nodeLeastSpec : ChangeSpec := { name := "nodeLeast", fn := fun _ => fun
  | [d1, d2, d3] => { results := [.lit (.bool true)], args := [d1, d2, d3] }
  | _ => none }
def nodeLeastRow : OpenClaim := { program := "ytghpjjhdbankhaa", sum := "3021769447bf2b9d08a69ea1eb210f6aa585057caef29decd61dace655b639af", func := "bramble/bramblelaw14.NodeLeast", spec := "nodeLeast", inPlace := ["internal/abi.NoEscape", "internal/bytealg.MakeNoZero"], unfollowed := true, recurses := true, loops := true, apart := false }
def NodeLeastSaid : Prop := nodeLeastRow.holds Try.pinned (OpenSpec.ofChange nodeLeastSpec)

/-- ITS FALSE NEIGHBOUR: 'it returns false'. Refute it at one input. -/
def nodeLeastWrong : ChangeSpec := { name := "nodeLeast", fn := fun _ => fun
  | [d1, d2, d3] => { results := [.lit (.bool false)], args := [d1, d2, d3] }
  | _ => none }
def NodeLeastWrongFalsely : Prop := nodeLeastRow.holds Try.pinned (OpenSpec.ofChange nodeLeastWrong)

/-- 'bramblelaw14.NodeWider': WHATEVER THE INPUT: true; the input reads as it did. -/
def nodeWiderSpec : ChangeSpec := { name := "nodeWider", fn := fun _ => fun
  | [d1, d2, d3] => { results := [.lit (.bool true)], args := [d1, d2, d3] }
  | _ => none }
def nodeWiderRow : OpenClaim := { program := "ytghpjjhdbankhaa", sum := "3021769447bf2b9d08a69ea1eb210f6aa585057caef29decd61dace655b639af", func := "bramble/bramblelaw14.NodeWider", spec := "nodeWider", inPlace := ["internal/abi.NoEscape", "internal/bytealg.MakeNoZero"], unfollowed := true, recurses := true, loops := true, apart := false }
def NodeWiderSaid : Prop := nodeWiderRow.holds Try.pinned (OpenSpec.ofChange nodeWiderSpec)

/-- ITS FALSE NEIGHBOUR: 'it returns false'. Refute it at one input. -/
def nodeWiderWrong : ChangeSpec := { name := "nodeWider", fn := fun _ => fun
  | [d1, d2, d3] => { results := [.lit (.bool false)], args := [d1, d2, d3] }
  | _ => none }
def NodeWiderWrongFalsely : Prop := nodeWiderRow.holds Try.pinned (OpenSpec.ofChange nodeWiderWrong)

/-- 'bramblelaw14.NodeMoves': WHATEVER THE INPUT: true; the input reads as it did. -/
def nodeMovesSpec : ChangeSpec := { name := "nodeMoves", fn := fun _ => fun
  | [d1, d2] => { results := [.lit (.bool true)], args := [d1, d2] }
  | _ => none }
def nodeMovesRow : OpenClaim := { program := "ytghpjjhdbankhaa", sum := "3021769447bf2b9d08a69ea1eb210f6aa585057caef29decd61dace655b639af", func := "bramble/bramblelaw14.NodeMoves", spec := "nodeMoves", inPlace := ["internal/abi.NoEscape", "internal/bytealg.MakeNoZero"], unfollowed := true, recurses := true, loops := true, apart := false }
def NodeMovesSaid : Prop := nodeMovesRow.holds Try.pinned (OpenSpec.ofChange nodeMovesSpec)

/-- ITS FALSE NEIGHBOUR: 'it returns false'. Refute it at one input. -/
def nodeMovesWrong : ChangeSpec := { name := "nodeMoves", fn := fun _ => fun
  | [d1, d2] => { results := [.lit (.bool false)], args := [d1, d2] }
  | _ => none }
def NodeMovesWrongFalsely : Prop := nodeMovesRow.holds Try.pinned (OpenSpec.ofChange nodeMovesWrong)

/-- 'bramblelaw14.NodeFinds': WHATEVER THE INPUT: true; the input reads as it did. -/
def nodeFindsSpec : ChangeSpec := { name := "nodeFinds", fn := fun _ => fun
  | [d1, d2, d3, d4, d5] => { results := [.lit (.bool true)], args := [d1, d2, d3, d4, d5] }
  | _ => none }
def nodeFindsRow : OpenClaim := { program := "ytghpjjhdbankhaa", sum := "3021769447bf2b9d08a69ea1eb210f6aa585057caef29decd61dace655b639af", func := "bramble/bramblelaw14.NodeFinds", spec := "nodeFinds", inPlace := ["internal/abi.NoEscape", "internal/bytealg.MakeNoZero"], unfollowed := true, recurses := true, loops := true, apart := false }
def NodeFindsSaid : Prop := nodeFindsRow.holds Try.pinned (OpenSpec.ofChange nodeFindsSpec)

/-- ITS FALSE NEIGHBOUR: 'it returns false'. Refute it at one input. -/
def nodeFindsWrong : ChangeSpec := { name := "nodeFinds", fn := fun _ => fun
  | [d1, d2, d3, d4, d5] => { results := [.lit (.bool false)], args := [d1, d2, d3, d4, d5] }
  | _ => none }
def NodeFindsWrongFalsely : Prop := nodeFindsRow.holds Try.pinned (OpenSpec.ofChange nodeFindsWrong)

/- THE SECOND FORM. 'bulk': how many values and letters a reading holds, each counted each time it is reached (what is shared counts as often as it is met; a slice's spare places count too). A statement '..UptoSaid' is the law's where the arguments, and the package variables that the reading takes, are together of bulk at most 1048576: NARROWER than '..Said'. Prove '..Said' where nothing that the law and all that it calls make is longer than what came in: it says more and counts as full. Else prove '..UptoSaid'. A law counts once. -/
mutual
def uptoBulk {H : Type} : DataW H → Nat
  | .lit (.string bytes) => bytes.length + 1
  | .lit _ => 1
  | .nil => 1
  | .ptr d => uptoBulk d + 1
  | .slice elems spare => uptoBulkAll elems + uptoBulkAll spare + 1
  | .agg parts => uptoBulkAll parts + 1
  | .iface _ d => uptoBulk d + 1
  | .map entries => uptoBulkEntries entries + 1
  | .held _ => 1
def uptoBulkAll {H : Type} : List (DataW H) → Nat
  | [] => 0
  | d :: r => uptoBulk d + uptoBulkAll r
def uptoBulkEntries {H : Type} : List (Lit × DataW H) → Nat
  | [] => 0
  | x :: r => uptoBulkEntry x + uptoBulkEntries r
def uptoBulkEntry {H : Type} : Lit × DataW H → Nat
  | (.string bytes, d) => bytes.length + uptoBulk d + 1
  | (_, d) => uptoBulk d + 1
 end
def uptoSmall : (H : Type) → List (DataW H) → Bool := fun _ ds => decide (uptoBulkAll ds ≤ 1048576)
def OpenSpec.upto (s : _root_.Go.ChangeSpec) : _root_.Go.OpenSpec := { _root_.Go.OpenSpec.ofChange s with cond := some uptoSmall }

/-- 'bramblelaw28.GenOps', WHERE WHAT IT READS IS OF BULK AT MOST 1048576: true; the input reads as it did. -/
def genOpsUptoRow : OpenClaim := { program := "ytghpjjhdbankhaa", sum := "3021769447bf2b9d08a69ea1eb210f6aa585057caef29decd61dace655b639af", func := "bramble/bramblelaw28.GenOps", spec := "genOps", unfollowed := true, recurses := true, apart := false, narrowed := true }
def GenOpsUptoSaid : Prop := genOpsUptoRow.holds Try.pinned (OpenSpec.upto genOpsSpec)

/-- 'bramblelaw28.GenMakes', WHERE WHAT IT READS IS OF BULK AT MOST 1048576: true; the input reads as it did. -/
def genMakesUptoRow : OpenClaim := { program := "ytghpjjhdbankhaa", sum := "3021769447bf2b9d08a69ea1eb210f6aa585057caef29decd61dace655b639af", func := "bramble/bramblelaw28.GenMakes", spec := "genMakes", inPlace := ["internal/abi.NoEscape"], unfollowed := true, recurses := true, apart := false, narrowed := true }
def GenMakesUptoSaid : Prop := genMakesUptoRow.holds Try.pinned (OpenSpec.upto genMakesSpec)

/-- 'bramblelaw21.CursorOrder', WHERE WHAT IT READS IS OF BULK AT MOST 1048576: true; the input reads as it did. -/
def cursorOrderUptoRow : OpenClaim := { program := "ytghpjjhdbankhaa", sum := "3021769447bf2b9d08a69ea1eb210f6aa585057caef29decd61dace655b639af", func := "bramble/bramblelaw21.CursorOrder", spec := "cursorOrder", unfollowed := true, recurses := true, loops := true, apart := false, narrowed := true }
def CursorOrderUptoSaid : Prop := cursorOrderUptoRow.holds Try.pinned (OpenSpec.upto cursorOrderSpec)

/-- 'bramblelaw21.CursorWalks', WHERE WHAT IT READS IS OF BULK AT MOST 1048576: true; the input reads as it did. -/
def cursorWalksUptoRow : OpenClaim := { program := "ytghpjjhdbankhaa", sum := "3021769447bf2b9d08a69ea1eb210f6aa585057caef29decd61dace655b639af", func := "bramble/bramblelaw21.CursorWalks", spec := "cursorWalks", unfollowed := true, recurses := true, loops := true, apart := false, narrowed := true }
def CursorWalksUptoSaid : Prop := cursorWalksUptoRow.holds Try.pinned (OpenSpec.upto cursorWalksSpec)

/-- 'bramblelaw21.CursorFields', WHERE WHAT IT READS IS OF BULK AT MOST 1048576: true; the input reads as it did. -/
def cursorFieldsUptoRow : OpenClaim := { program := "ytghpjjhdbankhaa", sum := "3021769447bf2b9d08a69ea1eb210f6aa585057caef29decd61dace655b639af", func := "bramble/bramblelaw21.CursorFields", spec := "cursorFields", unfollowed := true, recurses := true, loops := true, apart := false, narrowed := true }
def CursorFieldsUptoSaid : Prop := cursorFieldsUptoRow.holds Try.pinned (OpenSpec.upto cursorFieldsSpec)

/-- 'bramblelaw21.CursorGoes', WHERE WHAT IT READS IS OF BULK AT MOST 1048576: true; the input reads as it did. -/
def cursorGoesUptoRow : OpenClaim := { program := "ytghpjjhdbankhaa", sum := "3021769447bf2b9d08a69ea1eb210f6aa585057caef29decd61dace655b639af", func := "bramble/bramblelaw21.CursorGoes", spec := "cursorGoes", unfollowed := true, recurses := true, loops := true, apart := false, narrowed := true }
def CursorGoesUptoSaid : Prop := cursorGoesUptoRow.holds Try.pinned (OpenSpec.upto cursorGoesSpec)

/-- 'bramblelaw21.CursorBack', WHERE WHAT IT READS IS OF BULK AT MOST 1048576: true; the input reads as it did. -/
def cursorBackUptoRow : OpenClaim := { program := "ytghpjjhdbankhaa", sum := "3021769447bf2b9d08a69ea1eb210f6aa585057caef29decd61dace655b639af", func := "bramble/bramblelaw21.CursorBack", spec := "cursorBack", unfollowed := true, recurses := true, loops := true, apart := false, narrowed := true }
def CursorBackUptoSaid : Prop := cursorBackUptoRow.holds Try.pinned (OpenSpec.upto cursorBackSpec)

/-- 'bramblelaw14.NodeLeaves', WHERE WHAT IT READS IS OF BULK AT MOST 1048576: true; the input reads as it did. -/
def nodeLeavesUptoRow : OpenClaim := { program := "ytghpjjhdbankhaa", sum := "3021769447bf2b9d08a69ea1eb210f6aa585057caef29decd61dace655b639af", func := "bramble/bramblelaw14.NodeLeaves", spec := "nodeLeaves", inPlace := ["internal/abi.NoEscape", "internal/bytealg.MakeNoZero"], unfollowed := true, recurses := true, loops := true, apart := false, narrowed := true }
def NodeLeavesUptoSaid : Prop := nodeLeavesUptoRow.holds Try.pinned (OpenSpec.upto nodeLeavesSpec)

/-- 'bramblelaw14.NodeLeast', WHERE WHAT IT READS IS OF BULK AT MOST 1048576: true; the input reads as it did. -/
def nodeLeastUptoRow : OpenClaim := { program := "ytghpjjhdbankhaa", sum := "3021769447bf2b9d08a69ea1eb210f6aa585057caef29decd61dace655b639af", func := "bramble/bramblelaw14.NodeLeast", spec := "nodeLeast", inPlace := ["internal/abi.NoEscape", "internal/bytealg.MakeNoZero"], unfollowed := true, recurses := true, loops := true, apart := false, narrowed := true }
def NodeLeastUptoSaid : Prop := nodeLeastUptoRow.holds Try.pinned (OpenSpec.upto nodeLeastSpec)

/-- 'bramblelaw14.NodeWider', WHERE WHAT IT READS IS OF BULK AT MOST 1048576: true; the input reads as it did. -/
def nodeWiderUptoRow : OpenClaim := { program := "ytghpjjhdbankhaa", sum := "3021769447bf2b9d08a69ea1eb210f6aa585057caef29decd61dace655b639af", func := "bramble/bramblelaw14.NodeWider", spec := "nodeWider", inPlace := ["internal/abi.NoEscape", "internal/bytealg.MakeNoZero"], unfollowed := true, recurses := true, loops := true, apart := false, narrowed := true }
def NodeWiderUptoSaid : Prop := nodeWiderUptoRow.holds Try.pinned (OpenSpec.upto nodeWiderSpec)

/-- 'bramblelaw14.NodeMoves', WHERE WHAT IT READS IS OF BULK AT MOST 1048576: true; the input reads as it did. -/
def nodeMovesUptoRow : OpenClaim := { program := "ytghpjjhdbankhaa", sum := "3021769447bf2b9d08a69ea1eb210f6aa585057caef29decd61dace655b639af", func := "bramble/bramblelaw14.NodeMoves", spec := "nodeMoves", inPlace := ["internal/abi.NoEscape", "internal/bytealg.MakeNoZero"], unfollowed := true, recurses := true, loops := true, apart := false, narrowed := true }
def NodeMovesUptoSaid : Prop := nodeMovesUptoRow.holds Try.pinned (OpenSpec.upto nodeMovesSpec)

/-- 'bramblelaw14.NodeFinds', WHERE WHAT IT READS IS OF BULK AT MOST 1048576: true; the input reads as it did. -/
def nodeFindsUptoRow : OpenClaim := { program := "ytghpjjhdbankhaa", sum := "3021769447bf2b9d08a69ea1eb210f6aa585057caef29decd61dace655b639af", func := "bramble/bramblelaw14.NodeFinds", spec := "nodeFinds", inPlace := ["internal/abi.NoEscape", "internal/bytealg.MakeNoZero"], unfollowed := true, recurses := true, loops := true, apart := false, narrowed := true }
def NodeFindsUptoSaid : Prop := nodeFindsUptoRow.holds Try.pinned (OpenSpec.upto nodeFindsSpec)

end Rows
end Go.Proofs.Ytghpjjhdbankhaa
