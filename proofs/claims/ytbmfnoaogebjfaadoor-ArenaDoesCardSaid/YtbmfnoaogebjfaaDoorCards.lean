/-
  DERIVED. GIVEN WITH THE SEED: THE CARDS: each row of YtbmfnoaogebjfaaDoorRows.lean that lists a variable, with what it lists TIED to the program's text (the seventh form; the later family's looks); each row that meets fmt, with fmt's text TOLD by the authors' own Lean function (tested against real Go, not proved from fmt's source: count such statements apart). THE CARD IS WHAT COUNTS. Prove the row's statement (the work); the ties are given (YtbmfnoaogebjfaaDoorTie.lean); close each card by the builder's one call (the guide's Derived/Test/ToyasCard.lean, 'card_holds'). Laid BY PROGRAM, IN A SANDBOX (cutbox-door.mjs). By AI agents, Wed Nov 11 2026. No macro, syntax, notation, axiom, sorry.
-/
import Derived.Test.YtbmfnoaogebjfaaDoorRows
import GoSem.ClaimSeven
namespace Go.Proofs.YtbmfnoaogebjfaaDoor
namespace Rows

/-- THE TIED CARD OF 'bramblelaw20.ArenaDoes'. -/
def arenaDoesCard : Claim7 := { stood := { row := arenaDoesRow, standIns := [], harness := (true, "3052eccb080f7da6dfe5b6c28cb880019dec1c51cb164a68328c5931b47cbc55"), looks := false }, kinds := [], alts := [], laidByText := true, laidKinds := [.data, .data, .data], laidTests := true, laidLooks := .later }
def ArenaDoesCardSaid : Prop := Claim7.holds Tryd.pinned (.plain (OpenSpec.ofChange arenaDoesSpec)) arenaDoesCard

/-- THE TIED CARD OF 'bramblelaw20.ArenaOrder'. -/
def arenaOrderCard : Claim7 := { stood := { row := arenaOrderRow, standIns := [], harness := (true, "3052eccb080f7da6dfe5b6c28cb880019dec1c51cb164a68328c5931b47cbc55"), looks := false }, kinds := [], alts := [], laidByText := true, laidKinds := [.data, .data, .data], laidTests := true, laidLooks := .later }
def ArenaOrderCardSaid : Prop := Claim7.holds Tryd.pinned (.plain (OpenSpec.ofChange arenaOrderSpec)) arenaOrderCard

/-- THE TIED CARD OF 'bramblelaw20.ArenaHandles'. -/
def arenaHandlesCard : Claim7 := { stood := { row := arenaHandlesRow, standIns := [], harness := (true, "3052eccb080f7da6dfe5b6c28cb880019dec1c51cb164a68328c5931b47cbc55"), looks := false }, kinds := [], alts := [], laidByText := true, laidKinds := [.data, .data, .data], laidTests := true, laidLooks := .later }
def ArenaHandlesCardSaid : Prop := Claim7.holds Tryd.pinned (.plain (OpenSpec.ofChange arenaHandlesSpec)) arenaHandlesCard

/-- THE TIED CARD OF 'bramblelaw20.ArenaShares'. -/
def arenaSharesCard : Claim7 := { stood := { row := arenaSharesRow, standIns := [], harness := (true, "3052eccb080f7da6dfe5b6c28cb880019dec1c51cb164a68328c5931b47cbc55"), looks := false }, kinds := [], alts := [], laidByText := true, laidKinds := [.data, .data, .data], laidTests := true, laidLooks := .later }
def ArenaSharesCardSaid : Prop := Claim7.holds Tryd.pinned (.plain (OpenSpec.ofChange arenaSharesSpec)) arenaSharesCard

/-- THE TIED CARD OF 'bramblelaw20.ArenaTells'. -/
def arenaTellsCard : Claim7 := { stood := { row := arenaTellsRow, standIns := [], harness := (true, "3052eccb080f7da6dfe5b6c28cb880019dec1c51cb164a68328c5931b47cbc55"), looks := false }, kinds := [], alts := [], laidByText := true, laidKinds := [.data, .data, .data], laidTests := true, laidLooks := .later }
def ArenaTellsCardSaid : Prop := Claim7.holds Tryd.pinned (.plain (OpenSpec.ofChange arenaTellsSpec)) arenaTellsCard

/-- THE SECOND FORM's CARD OF 'bramblelaw20.ArenaDoes'. -/
def arenaDoesUptoCard : Claim7 := { stood := { row := arenaDoesUptoRow, standIns := [], harness := (true, "3052eccb080f7da6dfe5b6c28cb880019dec1c51cb164a68328c5931b47cbc55"), looks := false }, kinds := [], alts := [], laidByText := true, laidKinds := [.data, .data, .data], laidTests := true, laidLooks := .later }
def ArenaDoesUptoCardSaid : Prop := Claim7.holds Tryd.pinned (.plain (OpenSpec.upto arenaDoesSpec)) arenaDoesUptoCard

/-- THE SECOND FORM's CARD OF 'bramblelaw20.ArenaOrder'. -/
def arenaOrderUptoCard : Claim7 := { stood := { row := arenaOrderUptoRow, standIns := [], harness := (true, "3052eccb080f7da6dfe5b6c28cb880019dec1c51cb164a68328c5931b47cbc55"), looks := false }, kinds := [], alts := [], laidByText := true, laidKinds := [.data, .data, .data], laidTests := true, laidLooks := .later }
def ArenaOrderUptoCardSaid : Prop := Claim7.holds Tryd.pinned (.plain (OpenSpec.upto arenaOrderSpec)) arenaOrderUptoCard

/-- THE SECOND FORM's CARD OF 'bramblelaw20.ArenaHandles'. -/
def arenaHandlesUptoCard : Claim7 := { stood := { row := arenaHandlesUptoRow, standIns := [], harness := (true, "3052eccb080f7da6dfe5b6c28cb880019dec1c51cb164a68328c5931b47cbc55"), looks := false }, kinds := [], alts := [], laidByText := true, laidKinds := [.data, .data, .data], laidTests := true, laidLooks := .later }
def ArenaHandlesUptoCardSaid : Prop := Claim7.holds Tryd.pinned (.plain (OpenSpec.upto arenaHandlesSpec)) arenaHandlesUptoCard

/-- THE SECOND FORM's CARD OF 'bramblelaw20.ArenaShares'. -/
def arenaSharesUptoCard : Claim7 := { stood := { row := arenaSharesUptoRow, standIns := [], harness := (true, "3052eccb080f7da6dfe5b6c28cb880019dec1c51cb164a68328c5931b47cbc55"), looks := false }, kinds := [], alts := [], laidByText := true, laidKinds := [.data, .data, .data], laidTests := true, laidLooks := .later }
def ArenaSharesUptoCardSaid : Prop := Claim7.holds Tryd.pinned (.plain (OpenSpec.upto arenaSharesSpec)) arenaSharesUptoCard

/-- THE SECOND FORM's CARD OF 'bramblelaw20.ArenaTells'. -/
def arenaTellsUptoCard : Claim7 := { stood := { row := arenaTellsUptoRow, standIns := [], harness := (true, "3052eccb080f7da6dfe5b6c28cb880019dec1c51cb164a68328c5931b47cbc55"), looks := false }, kinds := [], alts := [], laidByText := true, laidKinds := [.data, .data, .data], laidTests := true, laidLooks := .later }
def ArenaTellsUptoCardSaid : Prop := Claim7.holds Tryd.pinned (.plain (OpenSpec.upto arenaTellsSpec)) arenaTellsUptoCard
end Rows
end Go.Proofs.YtbmfnoaogebjfaaDoor
