/-
  DERIVED. GIVEN WITH THE SEED: THE CARDS: each row of YtcibjjhanafojaaGreatDoorRows.lean that lists a variable, with what it lists TIED to the program's text (the seventh form; the later family's looks); each row that meets fmt, with fmt's text TOLD by the authors' own Lean function (tested against real Go, not proved from fmt's source: count such statements apart). THE CARD IS WHAT COUNTS. Prove the row's statement (the work); the ties are given (YtcibjjhanafojaaGreatDoorTie.lean); close each card by the builder's one call (the guide's Derived/Test/ToyasCard.lean, 'card_holds'). Laid BY PROGRAM, IN A SANDBOX (cutbox-door.mjs). By AI agents, Wed Nov 11 2026. No macro, syntax, notation, axiom, sorry.
-/
import Derived.Test.YtcibjjhanafojaaGreatDoorRows
import GoSem.ClaimSeven
namespace Go.Proofs.YtcibjjhanafojaaGreatDoor
namespace Rows

/-- THE TIED CARD OF 'fishkeep1.LineSafe'. -/
def lineSafeCard : Claim7 := { stood := { row := lineSafeRow, standIns := [], harness := (true, "bee4ff9f9194b9f1dd9828c30b4ced80cc94f7ef38a36249be21c21669f45d5b"), looks := true }, kinds := [], alts := [], laidByText := true, laidKinds := [.data, .data, .data, .data, .sentinel, .sentinel, .pinned], laidTests := true, laidLooks := .later }
def LineSafeCardSaid : Prop := Claim7.holds Tryz.pinned (.plain (OpenSpec.ofChange lineSafeSpec)) lineSafeCard

/-- THE TIED CARD OF 'fishkeep1.LineGoes'. -/
def lineGoesCard : Claim7 := { stood := { row := lineGoesRow, standIns := [], harness := (true, "bee4ff9f9194b9f1dd9828c30b4ced80cc94f7ef38a36249be21c21669f45d5b"), looks := true }, kinds := [], alts := [], laidByText := true, laidKinds := [.data, .data, .data, .data, .sentinel, .sentinel, .pinned], laidTests := true, laidLooks := .later }
def LineGoesCardSaid : Prop := Claim7.holds Tryz.pinned (.plain (OpenSpec.ofChange lineGoesSpec)) lineGoesCard

/-- THE SECOND FORM's CARD OF 'fishkeep1.LineSafe'. -/
def lineSafeUptoCard : Claim7 := { stood := { row := lineSafeUptoRow, standIns := [], harness := (true, "bee4ff9f9194b9f1dd9828c30b4ced80cc94f7ef38a36249be21c21669f45d5b"), looks := true }, kinds := [], alts := [], laidByText := true, laidKinds := [.data, .data, .data, .data, .sentinel, .sentinel, .pinned], laidTests := true, laidLooks := .later }
def LineSafeUptoCardSaid : Prop := Claim7.holds Tryz.pinned (.plain (OpenSpec.upto lineSafeSpec)) lineSafeUptoCard

/-- THE SECOND FORM's CARD OF 'fishkeep1.LineGoes'. -/
def lineGoesUptoCard : Claim7 := { stood := { row := lineGoesUptoRow, standIns := [], harness := (true, "bee4ff9f9194b9f1dd9828c30b4ced80cc94f7ef38a36249be21c21669f45d5b"), looks := true }, kinds := [], alts := [], laidByText := true, laidKinds := [.data, .data, .data, .data, .sentinel, .sentinel, .pinned], laidTests := true, laidLooks := .later }
def LineGoesUptoCardSaid : Prop := Claim7.holds Tryz.pinned (.plain (OpenSpec.upto lineGoesSpec)) lineGoesUptoCard
end Rows
end Go.Proofs.YtcibjjhanafojaaGreatDoor
