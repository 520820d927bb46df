/-
  DERIVED. GIVEN WITH THE SEED: THE CARDS: each row of YtaagdbecijhkmaaDoorRows.lean that lists a variable, with what it lists TIED to the program's text (the seventh form; the later family's looks); each row that meets fmt, with fmt's text TOLD by the authors' own Lean function (tested against real Go, not proved from fmt's source: count such statements apart). THE CARD IS WHAT COUNTS. Prove the row's statement (the work); the ties are given (YtaagdbecijhkmaaDoorTie.lean); close each card by the builder's one call (the guide's Derived/Test/ToyasCard.lean, 'card_holds'). Laid BY PROGRAM, IN A SANDBOX (cutbox-door.mjs). By AI agents, Wed Nov 11 2026. No macro, syntax, notation, axiom, sorry.
-/
import Derived.Test.YtaagdbecijhkmaaDoorRows
import GoSem.ClaimSeven
namespace Go.Proofs.YtaagdbecijhkmaaDoor
namespace Rows

/-- THE TIED CARD OF 'fishkeep1.LineTold'. -/
def lineToldCard : Claim7 := { stood := { row := lineToldRow, standIns := [], harness := (true, "06d5d732e1e53ca010b93a5bbcce85b8ff96213632d54dc66ee923747e9b30f9"), looks := true }, kinds := [], alts := [], laidByText := true, laidKinds := [.data, .data, .data, .data, .sentinel, .sentinel, .pinned], laidTests := true, laidLooks := .later }
def LineToldCardSaid : Prop := Claim7.holds Tryd.pinned (.plain (OpenSpec.ofChange lineToldSpec)) lineToldCard

/-- THE SECOND FORM's CARD OF 'fishkeep1.LineTold'. -/
def lineToldUptoCard : Claim7 := { stood := { row := lineToldUptoRow, standIns := [], harness := (true, "06d5d732e1e53ca010b93a5bbcce85b8ff96213632d54dc66ee923747e9b30f9"), looks := true }, kinds := [], alts := [], laidByText := true, laidKinds := [.data, .data, .data, .data, .sentinel, .sentinel, .pinned], laidTests := true, laidLooks := .later }
def LineToldUptoCardSaid : Prop := Claim7.holds Tryd.pinned (.plain (OpenSpec.upto lineToldSpec)) lineToldUptoCard
end Rows
end Go.Proofs.YtaagdbecijhkmaaDoor
