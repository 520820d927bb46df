/-
  DERIVED. GIVEN WITH THE SEED: THE CARDS: each row of YtiajmiigkjmakaaGreatDoorRows.lean that lists a variable, with what it lists TIED to the program's text (the seventh form; the later family's looks); each row that meets fmt, with fmt's text TOLD by the authors' own Lean function (tested against real Go, not proved from fmt's source: count such statements apart). THE CARD IS WHAT COUNTS. Prove the row's statement (the work); the ties are given (YtiajmiigkjmakaaGreatDoorTie.lean); close each card by the builder's one call (the guide's Derived/Test/ToyasCard.lean, 'card_holds'). Laid BY PROGRAM, IN A SANDBOX (cutbox-door.mjs). By AI agents, Wed Nov 11 2026. No macro, syntax, notation, axiom, sorry.
-/
import Derived.Test.YtiajmiigkjmakaaGreatDoorRows
import GoSem.ClaimSeven
namespace Go.Proofs.YtiajmiigkjmakaaGreatDoor
namespace Rows

/-- THE TIED CARD OF 'fishkeep2.FareLess'. -/
def fareLessCard : Claim7 := { stood := { row := fareLessRow, standIns := [], harness := (true, "f82307928e767e1fe6ee07bad5f633ed138f4343efaaa898714203940f7001cf"), looks := true }, kinds := [], alts := [], laidByText := true, laidKinds := [.data, .data, .data, .data, .sentinel, .sentinel, .pinned], laidTests := true, laidLooks := .later }
def FareLessCardSaid : Prop := Claim7.holds Tryz.pinned (.plain (OpenSpec.ofChange fareLessSpec)) fareLessCard

/-- THE SECOND FORM's CARD OF 'fishkeep2.FareLess'. -/
def fareLessUptoCard : Claim7 := { stood := { row := fareLessUptoRow, standIns := [], harness := (true, "f82307928e767e1fe6ee07bad5f633ed138f4343efaaa898714203940f7001cf"), looks := true }, kinds := [], alts := [], laidByText := true, laidKinds := [.data, .data, .data, .data, .sentinel, .sentinel, .pinned], laidTests := true, laidLooks := .later }
def FareLessUptoCardSaid : Prop := Claim7.holds Tryz.pinned (.plain (OpenSpec.upto fareLessSpec)) fareLessUptoCard
end Rows
end Go.Proofs.YtiajmiigkjmakaaGreatDoor
