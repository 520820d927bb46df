/-
  DERIVED. GIVEN WITH THE SEED: THE CARDS: each row of YtjlollifgeggdaaGreatDoorRows.lean that lists a variable, with what it lists TIED to the program's text (the seventh form; the later family's looks); each row that meets fmt, with fmt's text TOLD by the authors' own Lean function (tested against real Go, not proved from fmt's source: count such statements apart). THE CARD IS WHAT COUNTS. Prove the row's statement (the work); the ties are given (YtjlollifgeggdaaGreatDoorTie.lean); close each card by the builder's one call (the guide's Derived/Test/ToyasCard.lean, 'card_holds'). Laid BY PROGRAM, IN A SANDBOX (cutbox-door.mjs). By AI agents, Wed Nov 11 2026. No macro, syntax, notation, axiom, sorry.
-/
import Derived.Test.YtjlollifgeggdaaGreatDoorRows
import GoSem.ClaimSeven
namespace Go.Proofs.YtjlollifgeggdaaGreatDoor
namespace Rows

/-- THE TIED CARD OF 'fishtop.TopTable'. -/
def topTableCard : Claim7 := { stood := { row := topTableRow, standIns := [], harness := (true, "b5a6b3443d86619c30e8d7acec42500bb90f53271b341ec67f2001a0f112e683"), looks := true }, kinds := [], alts := [], laidByText := true, laidKinds := [.data, .data, .data, .data, .sentinel, .sentinel, .pinned], laidTests := true, laidLooks := .later }
def TopTableCardSaid : Prop := Claim7.holds Tryz.pinned (.plain (OpenSpec.ofChange topTableSpec)) topTableCard

/-- THE TIED CARD OF 'fishtop.TopReleased'. -/
def topReleasedCard : Claim7 := { stood := { row := topReleasedRow, standIns := [], harness := (true, "b5a6b3443d86619c30e8d7acec42500bb90f53271b341ec67f2001a0f112e683"), looks := true }, kinds := [], alts := [], laidByText := true, laidKinds := [.data, .data, .data, .data, .sentinel, .sentinel, .pinned], laidTests := true, laidLooks := .later }
def TopReleasedCardSaid : Prop := Claim7.holds Tryz.pinned (.plain (OpenSpec.ofChange topReleasedSpec)) topReleasedCard

/-- THE SECOND FORM's CARD OF 'fishtop.TopTable'. -/
def topTableUptoCard : Claim7 := { stood := { row := topTableUptoRow, standIns := [], harness := (true, "b5a6b3443d86619c30e8d7acec42500bb90f53271b341ec67f2001a0f112e683"), looks := true }, kinds := [], alts := [], laidByText := true, laidKinds := [.data, .data, .data, .data, .sentinel, .sentinel, .pinned], laidTests := true, laidLooks := .later }
def TopTableUptoCardSaid : Prop := Claim7.holds Tryz.pinned (.plain (OpenSpec.upto topTableSpec)) topTableUptoCard

/-- THE SECOND FORM's CARD OF 'fishtop.TopReleased'. -/
def topReleasedUptoCard : Claim7 := { stood := { row := topReleasedUptoRow, standIns := [], harness := (true, "b5a6b3443d86619c30e8d7acec42500bb90f53271b341ec67f2001a0f112e683"), looks := true }, kinds := [], alts := [], laidByText := true, laidKinds := [.data, .data, .data, .data, .sentinel, .sentinel, .pinned], laidTests := true, laidLooks := .later }
def TopReleasedUptoCardSaid : Prop := Claim7.holds Tryz.pinned (.plain (OpenSpec.upto topReleasedSpec)) topReleasedUptoCard
end Rows
end Go.Proofs.YtjlollifgeggdaaGreatDoor
