/-
  DERIVED. GIVEN WITH THE SEED: THE CARDS: each row of YtnlnohallnfbmaaGreatDoorRows.lean that lists a variable, with what it lists TIED to the program's text (the seventh form; the later family's looks); each row that meets fmt, with fmt's text TOLD by the authors' own Lean function (tested against real Go, not proved from fmt's source: count such statements apart). THE CARD IS WHAT COUNTS. Prove the row's statement (the work); the ties are given (YtnlnohallnfbmaaGreatDoorTie.lean); close each card by the builder's one call (the guide's Derived/Test/ToyasCard.lean, 'card_holds'). Laid BY PROGRAM, IN A SANDBOX (cutbox-door.mjs). By AI agents, Wed Nov 11 2026. No macro, syntax, notation, axiom, sorry.
-/
import Derived.Test.YtnlnohallnfbmaaGreatDoorRows
import GoSem.ClaimSeven
namespace Go.Proofs.YtnlnohallnfbmaaGreatDoor
namespace Rows

/-- THE TIED CARD OF 'fishkeep2.FareForges'. -/
def fareForgesCard : Claim7 := { stood := { row := fareForgesRow, standIns := [], harness := (true, "af3775763aa1f32e5ffc91f8e859dca2c6871aead93038f5e5ae9e80de1430d1"), looks := true }, kinds := [], alts := [], laidByText := true, laidKinds := [.data, .data, .data, .data, .sentinel, .sentinel, .pinned], laidTests := true, laidLooks := .later }
def FareForgesCardSaid : Prop := Claim7.holds Tryz.pinned (.plain (OpenSpec.ofChange fareForgesSpec)) fareForgesCard

/-- THE TIED CARD OF 'fishkeep2.FareWhole'. -/
def fareWholeCard : Claim7 := { stood := { row := fareWholeRow, standIns := [], harness := (true, "af3775763aa1f32e5ffc91f8e859dca2c6871aead93038f5e5ae9e80de1430d1"), looks := true }, kinds := [], alts := [], laidByText := true, laidKinds := [.data, .data, .data, .data, .sentinel, .sentinel, .pinned], laidTests := true, laidLooks := .later }
def FareWholeCardSaid : Prop := Claim7.holds Tryz.pinned (.plain (OpenSpec.ofChange fareWholeSpec)) fareWholeCard

/-- THE TIED CARD OF 'fishkeep2.FarePacked'. -/
def farePackedCard : Claim7 := { stood := { row := farePackedRow, standIns := [], harness := (true, "af3775763aa1f32e5ffc91f8e859dca2c6871aead93038f5e5ae9e80de1430d1"), looks := true }, kinds := [], alts := [], laidByText := true, laidKinds := [.data, .data, .data, .data, .sentinel, .sentinel, .pinned], laidTests := true, laidLooks := .later }
def FarePackedCardSaid : Prop := Claim7.holds Tryz.pinned (.plain (OpenSpec.ofChange farePackedSpec)) farePackedCard

/-- THE SECOND FORM's CARD OF 'fishkeep2.FareForges'. -/
def fareForgesUptoCard : Claim7 := { stood := { row := fareForgesUptoRow, standIns := [], harness := (true, "af3775763aa1f32e5ffc91f8e859dca2c6871aead93038f5e5ae9e80de1430d1"), looks := true }, kinds := [], alts := [], laidByText := true, laidKinds := [.data, .data, .data, .data, .sentinel, .sentinel, .pinned], laidTests := true, laidLooks := .later }
def FareForgesUptoCardSaid : Prop := Claim7.holds Tryz.pinned (.plain (OpenSpec.upto fareForgesSpec)) fareForgesUptoCard

/-- THE SECOND FORM's CARD OF 'fishkeep2.FareWhole'. -/
def fareWholeUptoCard : Claim7 := { stood := { row := fareWholeUptoRow, standIns := [], harness := (true, "af3775763aa1f32e5ffc91f8e859dca2c6871aead93038f5e5ae9e80de1430d1"), looks := true }, kinds := [], alts := [], laidByText := true, laidKinds := [.data, .data, .data, .data, .sentinel, .sentinel, .pinned], laidTests := true, laidLooks := .later }
def FareWholeUptoCardSaid : Prop := Claim7.holds Tryz.pinned (.plain (OpenSpec.upto fareWholeSpec)) fareWholeUptoCard

/-- THE SECOND FORM's CARD OF 'fishkeep2.FarePacked'. -/
def farePackedUptoCard : Claim7 := { stood := { row := farePackedUptoRow, standIns := [], harness := (true, "af3775763aa1f32e5ffc91f8e859dca2c6871aead93038f5e5ae9e80de1430d1"), looks := true }, kinds := [], alts := [], laidByText := true, laidKinds := [.data, .data, .data, .data, .sentinel, .sentinel, .pinned], laidTests := true, laidLooks := .later }
def FarePackedUptoCardSaid : Prop := Claim7.holds Tryz.pinned (.plain (OpenSpec.upto farePackedSpec)) farePackedUptoCard
end Rows
end Go.Proofs.YtnlnohallnfbmaaGreatDoor
