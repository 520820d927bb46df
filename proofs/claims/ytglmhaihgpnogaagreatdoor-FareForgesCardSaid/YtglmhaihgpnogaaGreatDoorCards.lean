/-
  DERIVED. GIVEN WITH THE SEED: THE CARDS: each row of YtglmhaihgpnogaaGreatDoorRows.lean that lists a variable, with what it lists TIED to the program's text (the seventh form; the later family's looks); each row that meets fmt, with fmt's text TOLD by the authors' own Lean function (tested against real Go, not proved from fmt's source: count such statements apart). THE CARD IS WHAT COUNTS. Prove the row's statement (the work); the ties are given (YtglmhaihgpnogaaGreatDoorTie.lean); close each card by the builder's one call (the guide's Derived/Test/ToyasCard.lean, 'card_holds'). Laid BY PROGRAM, IN A SANDBOX (cutbox-door.mjs). By AI agents, Wed Nov 11 2026. No macro, syntax, notation, axiom, sorry.
-/
import Derived.Test.YtglmhaihgpnogaaGreatDoorRows
import GoSem.ClaimSeven
namespace Go.Proofs.YtglmhaihgpnogaaGreatDoor
namespace Rows

/-- THE TIED CARD OF 'fishkeep2.FareForges'. -/
def fareForgesCard : Claim7 := { stood := { row := fareForgesRow, standIns := [], harness := (true, "2a206908da3f9fcfac2efae638b59781cbf993c53c0c3efa1af7576c229e5b61"), looks := true }, kinds := [], alts := [], laidByText := true, laidKinds := [.data, .data, .data, .data, .sentinel, .sentinel, .pinned], laidTests := true, laidLooks := .later }
def FareForgesCardSaid : Prop := Claim7.holds Tryz.pinned (.plain (OpenSpec.ofChange fareForgesSpec)) fareForgesCard

/-- THE SECOND FORM's CARD OF 'fishkeep2.FareForges'. -/
def fareForgesUptoCard : Claim7 := { stood := { row := fareForgesUptoRow, standIns := [], harness := (true, "2a206908da3f9fcfac2efae638b59781cbf993c53c0c3efa1af7576c229e5b61"), looks := true }, kinds := [], alts := [], laidByText := true, laidKinds := [.data, .data, .data, .data, .sentinel, .sentinel, .pinned], laidTests := true, laidLooks := .later }
def FareForgesUptoCardSaid : Prop := Claim7.holds Tryz.pinned (.plain (OpenSpec.upto fareForgesSpec)) fareForgesUptoCard
end Rows
end Go.Proofs.YtglmhaihgpnogaaGreatDoor
