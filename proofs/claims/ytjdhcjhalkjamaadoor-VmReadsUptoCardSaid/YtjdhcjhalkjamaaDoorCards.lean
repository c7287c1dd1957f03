/-
  DERIVED. GIVEN WITH THE SEED: THE CARDS: each row of YtjdhcjhalkjamaaDoorRows.lean that lists a variable, with what it lists TIED to the program's text (the seventh form; the later family's looks); each row that meets fmt, with fmt's text TOLD by the authors' own Lean function (tested against real Go, not proved from fmt's source: count such statements apart). THE CARD IS WHAT COUNTS. Prove the row's statement (the work); the ties are given (YtjdhcjhalkjamaaDoorTie.lean); close each card by the builder's one call (the guide's Derived/Test/ToyasCard.lean, 'card_holds'). Laid BY PROGRAM, IN A SANDBOX (cutbox-door.mjs). By AI agents, Wed Nov 11 2026. No macro, syntax, notation, axiom, sorry.
-/
import Derived.Test.YtjdhcjhalkjamaaDoorRows
import GoSem.ClaimSeven
namespace Go.Proofs.YtjdhcjhalkjamaaDoor
namespace Rows

/-- THE TIED CARD OF 'bramblelaw06.VmReads'. -/
def vmReadsCard : Claim7 := { stood := { row := vmReadsRow, standIns := [], harness := (true, "4df168a693444b47b50df445e68d783eb7717d229896e0314b2101bdf83a649e"), looks := true }, kinds := [], alts := [], laidByText := true, laidKinds := [.data, .data, .data, .sentinel, .sentinel], laidTests := true, laidLooks := .later }
def VmReadsCardSaid : Prop := Claim7.holds Tryd.pinned (.plain (OpenSpec.ofChange vmReadsSpec)) vmReadsCard

/-- THE TIED CARD OF 'bramblelaw06.VmRuns'. -/
def vmRunsCard : Claim7 := { stood := { row := vmRunsRow, standIns := [], harness := (true, "4df168a693444b47b50df445e68d783eb7717d229896e0314b2101bdf83a649e"), looks := true }, kinds := [], alts := [], laidByText := true, laidKinds := [.data, .data, .data, .sentinel, .sentinel], laidTests := true, laidLooks := .later }
def VmRunsCardSaid : Prop := Claim7.holds Tryd.pinned (.plain (OpenSpec.ofChange vmRunsSpec)) vmRunsCard

/-- THE TIED CARD OF 'bramblelaw06.VmBack'. -/
def vmBackCard : Claim7 := { stood := { row := vmBackRow, standIns := [], harness := (true, "4df168a693444b47b50df445e68d783eb7717d229896e0314b2101bdf83a649e"), looks := true }, kinds := [], alts := [], laidByText := true, laidKinds := [.data, .data, .data, .sentinel, .sentinel], laidTests := true, laidLooks := .later }
def VmBackCardSaid : Prop := Claim7.holds Tryd.pinned (.plain (OpenSpec.ofChange vmBackSpec)) vmBackCard

/-- THE TIED CARD OF 'bramblelaw06.VmSees'. -/
def vmSeesCard : Claim7 := { stood := { row := vmSeesRow, standIns := [], harness := (true, "4df168a693444b47b50df445e68d783eb7717d229896e0314b2101bdf83a649e"), looks := true }, kinds := [], alts := [], laidByText := true, laidKinds := [.data, .data, .data, .sentinel, .sentinel], laidTests := true, laidLooks := .later }
def VmSeesCardSaid : Prop := Claim7.holds Tryd.pinned (.plain (OpenSpec.ofChange vmSeesSpec)) vmSeesCard

/-- THE TIED CARD OF 'bramblelaw06.VmStates'. -/
def vmStatesCard : Claim7 := { stood := { row := vmStatesRow, standIns := [], harness := (true, "4df168a693444b47b50df445e68d783eb7717d229896e0314b2101bdf83a649e"), looks := true }, kinds := [], alts := [], laidByText := true, laidKinds := [.data, .data, .data, .sentinel, .sentinel], laidTests := true, laidLooks := .later }
def VmStatesCardSaid : Prop := Claim7.holds Tryd.pinned (.plain (OpenSpec.ofChange vmStatesSpec)) vmStatesCard

/-- THE SECOND FORM's CARD OF 'bramblelaw06.VmReads'. -/
def vmReadsUptoCard : Claim7 := { stood := { row := vmReadsUptoRow, standIns := [], harness := (true, "4df168a693444b47b50df445e68d783eb7717d229896e0314b2101bdf83a649e"), looks := true }, kinds := [], alts := [], laidByText := true, laidKinds := [.data, .data, .data, .sentinel, .sentinel], laidTests := true, laidLooks := .later }
def VmReadsUptoCardSaid : Prop := Claim7.holds Tryd.pinned (.plain (OpenSpec.upto vmReadsSpec)) vmReadsUptoCard

/-- THE SECOND FORM's CARD OF 'bramblelaw06.VmRuns'. -/
def vmRunsUptoCard : Claim7 := { stood := { row := vmRunsUptoRow, standIns := [], harness := (true, "4df168a693444b47b50df445e68d783eb7717d229896e0314b2101bdf83a649e"), looks := true }, kinds := [], alts := [], laidByText := true, laidKinds := [.data, .data, .data, .sentinel, .sentinel], laidTests := true, laidLooks := .later }
def VmRunsUptoCardSaid : Prop := Claim7.holds Tryd.pinned (.plain (OpenSpec.upto vmRunsSpec)) vmRunsUptoCard

/-- THE SECOND FORM's CARD OF 'bramblelaw06.VmBack'. -/
def vmBackUptoCard : Claim7 := { stood := { row := vmBackUptoRow, standIns := [], harness := (true, "4df168a693444b47b50df445e68d783eb7717d229896e0314b2101bdf83a649e"), looks := true }, kinds := [], alts := [], laidByText := true, laidKinds := [.data, .data, .data, .sentinel, .sentinel], laidTests := true, laidLooks := .later }
def VmBackUptoCardSaid : Prop := Claim7.holds Tryd.pinned (.plain (OpenSpec.upto vmBackSpec)) vmBackUptoCard

/-- THE SECOND FORM's CARD OF 'bramblelaw06.VmSees'. -/
def vmSeesUptoCard : Claim7 := { stood := { row := vmSeesUptoRow, standIns := [], harness := (true, "4df168a693444b47b50df445e68d783eb7717d229896e0314b2101bdf83a649e"), looks := true }, kinds := [], alts := [], laidByText := true, laidKinds := [.data, .data, .data, .sentinel, .sentinel], laidTests := true, laidLooks := .later }
def VmSeesUptoCardSaid : Prop := Claim7.holds Tryd.pinned (.plain (OpenSpec.upto vmSeesSpec)) vmSeesUptoCard

/-- THE SECOND FORM's CARD OF 'bramblelaw06.VmStates'. -/
def vmStatesUptoCard : Claim7 := { stood := { row := vmStatesUptoRow, standIns := [], harness := (true, "4df168a693444b47b50df445e68d783eb7717d229896e0314b2101bdf83a649e"), looks := true }, kinds := [], alts := [], laidByText := true, laidKinds := [.data, .data, .data, .sentinel, .sentinel], laidTests := true, laidLooks := .later }
def VmStatesUptoCardSaid : Prop := Claim7.holds Tryd.pinned (.plain (OpenSpec.upto vmStatesSpec)) vmStatesUptoCard
end Rows
end Go.Proofs.YtjdhcjhalkjamaaDoor
