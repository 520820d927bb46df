/-
  DERIVED. GIVEN WITH THE SEED: THE CARDS: each row of YthcgoaejnpelbaaGreatDoorRows.lean that lists a variable, with what it lists TIED to the program's text (the seventh form; the later family's looks); each row that meets fmt, with fmt's text TOLD by the authors' own Lean function (tested against real Go, not proved from fmt's source: count such statements apart). THE CARD IS WHAT COUNTS. Prove the row's statement (the work); the ties are given (YthcgoaejnpelbaaGreatDoorTie.lean); close each card by the builder's one call (the guide's Derived/Test/ToyasCard.lean, 'card_holds'). Laid BY PROGRAM, IN A SANDBOX (cutbox-door.mjs). By AI agents, Wed Nov 11 2026. No macro, syntax, notation, axiom, sorry.
-/
import Derived.Test.YthcgoaejnpelbaaGreatDoorRows
import GoSem.ClaimSeven
namespace Go.Proofs.YthcgoaejnpelbaaGreatDoor
namespace Rows

/-- THE TIED CARD OF 'fishkeep2.FareOnce'. -/
def fareOnceCard : Claim7 := { stood := { row := fareOnceRow, standIns := [], harness := (true, "9d5e798f07d679c48ddd7b58ac24181fdb3b3474cc5f9da314b6c9193e5a73ae"), looks := true }, kinds := [], alts := [], laidByText := true, laidKinds := [.data, .data, .data, .data, .sentinel, .sentinel, .pinned], laidTests := true, laidLooks := .later }
def FareOnceCardSaid : Prop := Claim7.holds Tryz.pinned (.plain (OpenSpec.ofChange fareOnceSpec)) fareOnceCard

/-- THE SECOND FORM's CARD OF 'fishkeep2.FareOnce'. -/
def fareOnceUptoCard : Claim7 := { stood := { row := fareOnceUptoRow, standIns := [], harness := (true, "9d5e798f07d679c48ddd7b58ac24181fdb3b3474cc5f9da314b6c9193e5a73ae"), looks := true }, kinds := [], alts := [], laidByText := true, laidKinds := [.data, .data, .data, .data, .sentinel, .sentinel, .pinned], laidTests := true, laidLooks := .later }
def FareOnceUptoCardSaid : Prop := Claim7.holds Tryz.pinned (.plain (OpenSpec.upto fareOnceSpec)) fareOnceUptoCard
end Rows
end Go.Proofs.YthcgoaejnpelbaaGreatDoor
