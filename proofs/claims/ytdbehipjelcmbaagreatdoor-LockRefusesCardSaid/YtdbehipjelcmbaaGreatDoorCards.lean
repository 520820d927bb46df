/-
  DERIVED. GIVEN WITH THE SEED: THE CARDS: each row of YtdbehipjelcmbaaGreatDoorRows.lean that lists a variable, with what it lists TIED to the program's text (the seventh form; the later family's looks); each row that meets fmt, with fmt's text TOLD by the authors' own Lean function (tested against real Go, not proved from fmt's source: count such statements apart). THE CARD IS WHAT COUNTS. Prove the row's statement (the work); the ties are given (YtdbehipjelcmbaaGreatDoorTie.lean); close each card by the builder's one call (the guide's Derived/Test/ToyasCard.lean, 'card_holds'). Laid BY PROGRAM, IN A SANDBOX (cutbox-door.mjs). By AI agents, Wed Nov 11 2026. No macro, syntax, notation, axiom, sorry.
-/
import Derived.Test.YtdbehipjelcmbaaGreatDoorRows
import GoSem.ClaimSeven
namespace Go.Proofs.YtdbehipjelcmbaaGreatDoor
namespace Rows

/-- THE TIED CARD OF 'fishkeep1.LockKeeps'. -/
def lockKeepsCard : Claim7 := { stood := { row := lockKeepsRow, standIns := [], harness := (true, "9adaa8ee9f8576873693dad107c32ec6edf8616653341f4cad1a9f14d2b63f38"), looks := true }, kinds := [], alts := [], laidByText := true, laidKinds := [.data, .data, .data, .data, .sentinel, .sentinel, .pinned], laidTests := true, laidLooks := .later }
def LockKeepsCardSaid : Prop := Claim7.holds Tryz.pinned (.plain (OpenSpec.ofChange lockKeepsSpec)) lockKeepsCard

/-- THE TIED CARD OF 'fishkeep1.LockRefuses'. -/
def lockRefusesCard : Claim7 := { stood := { row := lockRefusesRow, standIns := [], harness := (true, "9adaa8ee9f8576873693dad107c32ec6edf8616653341f4cad1a9f14d2b63f38"), looks := true }, kinds := [], alts := [], laidByText := true, laidKinds := [.data, .data, .data, .data, .sentinel, .sentinel, .pinned], laidTests := true, laidLooks := .later }
def LockRefusesCardSaid : Prop := Claim7.holds Tryz.pinned (.plain (OpenSpec.ofChange lockRefusesSpec)) lockRefusesCard

/-- THE SECOND FORM's CARD OF 'fishkeep1.LockKeeps'. -/
def lockKeepsUptoCard : Claim7 := { stood := { row := lockKeepsUptoRow, standIns := [], harness := (true, "9adaa8ee9f8576873693dad107c32ec6edf8616653341f4cad1a9f14d2b63f38"), looks := true }, kinds := [], alts := [], laidByText := true, laidKinds := [.data, .data, .data, .data, .sentinel, .sentinel, .pinned], laidTests := true, laidLooks := .later }
def LockKeepsUptoCardSaid : Prop := Claim7.holds Tryz.pinned (.plain (OpenSpec.upto lockKeepsSpec)) lockKeepsUptoCard

/-- THE SECOND FORM's CARD OF 'fishkeep1.LockRefuses'. -/
def lockRefusesUptoCard : Claim7 := { stood := { row := lockRefusesUptoRow, standIns := [], harness := (true, "9adaa8ee9f8576873693dad107c32ec6edf8616653341f4cad1a9f14d2b63f38"), looks := true }, kinds := [], alts := [], laidByText := true, laidKinds := [.data, .data, .data, .data, .sentinel, .sentinel, .pinned], laidTests := true, laidLooks := .later }
def LockRefusesUptoCardSaid : Prop := Claim7.holds Tryz.pinned (.plain (OpenSpec.upto lockRefusesSpec)) lockRefusesUptoCard
end Rows
end Go.Proofs.YtdbehipjelcmbaaGreatDoor
