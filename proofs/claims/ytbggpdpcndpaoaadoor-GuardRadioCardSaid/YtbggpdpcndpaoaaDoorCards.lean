/-
  DERIVED. GIVEN WITH THE SEED: THE CARDS: each row of YtbggpdpcndpaoaaDoorRows.lean that lists a variable, with what it lists TIED to the program's text (the seventh form; the later family's looks); each row that meets fmt, with fmt's text TOLD by the authors' own Lean function (tested against real Go, not proved from fmt's source: count such statements apart). THE CARD IS WHAT COUNTS. Prove the row's statement (the work); the ties are given (YtbggpdpcndpaoaaDoorTie.lean); close each card by the builder's one call (the guide's Derived/Test/ToyasCard.lean, 'card_holds'). Laid BY PROGRAM, IN A SANDBOX (cutbox-door.mjs). By AI agents, Wed Nov 11 2026. No macro, syntax, notation, axiom, sorry.
-/
import Derived.Test.YtbggpdpcndpaoaaDoorRows
import GoSem.ClaimSeven
namespace Go.Proofs.YtbggpdpcndpaoaaDoor
namespace Rows

/-- THE TIED CARD OF 'fishkeep1.GuardRadio'. -/
def guardRadioCard : Claim7 := { stood := { row := guardRadioRow, standIns := [], harness := (true, "65a17a02db325424a9b9790aa797a4fa0cc893561541c7edc3a5ab4781fd8e59"), looks := true }, kinds := [], alts := [], laidByText := true, laidKinds := [.data, .data, .data, .data, .sentinel, .sentinel, .pinned], laidTests := true, laidLooks := .later }
def GuardRadioCardSaid : Prop := Claim7.holds Tryd.pinned (.plain (OpenSpec.ofChange guardRadioSpec)) guardRadioCard

/-- THE SECOND FORM's CARD OF 'fishkeep1.GuardRadio'. -/
def guardRadioUptoCard : Claim7 := { stood := { row := guardRadioUptoRow, standIns := [], harness := (true, "65a17a02db325424a9b9790aa797a4fa0cc893561541c7edc3a5ab4781fd8e59"), looks := true }, kinds := [], alts := [], laidByText := true, laidKinds := [.data, .data, .data, .data, .sentinel, .sentinel, .pinned], laidTests := true, laidLooks := .later }
def GuardRadioUptoCardSaid : Prop := Claim7.holds Tryd.pinned (.plain (OpenSpec.upto guardRadioSpec)) guardRadioUptoCard
end Rows
end Go.Proofs.YtbggpdpcndpaoaaDoor
