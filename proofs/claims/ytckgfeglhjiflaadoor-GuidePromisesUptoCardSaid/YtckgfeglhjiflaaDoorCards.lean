/-
  DERIVED. GIVEN WITH THE SEED: THE CARDS: each row of YtckgfeglhjiflaaDoorRows.lean that lists a variable, with what it lists TIED to the program's text (the seventh form; the later family's looks); each row that meets fmt, with fmt's text TOLD by the authors' own Lean function (tested against real Go, not proved from fmt's source: count such statements apart). THE CARD IS WHAT COUNTS. Prove the row's statement (the work); the ties are given (YtckgfeglhjiflaaDoorTie.lean); close each card by the builder's one call (the guide's Derived/Test/ToyasCard.lean, 'card_holds'). Laid BY PROGRAM, IN A SANDBOX (cutbox-door.mjs). By AI agents, Wed Nov 11 2026. No macro, syntax, notation, axiom, sorry.
-/
import Derived.Test.YtckgfeglhjiflaaDoorRows
import GoSem.ClaimSeven
namespace Go.Proofs.YtckgfeglhjiflaaDoor
namespace Rows

/-- THE TIED CARD OF 'fishkeep2.GuideTurned'. -/
def guideTurnedCard : Claim7 := { stood := { row := guideTurnedRow, standIns := [], harness := (true, "10d05c66e0ad7a8ed8b38bf95d23b03b67b6bf43744a61fa88817d8c10a50c58"), looks := false }, kinds := [], alts := [], laidByText := true, laidKinds := [.data, .data, .data], laidTests := true, laidLooks := .later }
def GuideTurnedCardSaid : Prop := Claim7.holds Tryd.pinned (.plain (OpenSpec.ofChange guideTurnedSpec)) guideTurnedCard

/-- THE TIED CARD OF 'fishkeep2.GuideMore'. -/
def guideMoreCard : Claim7 := { stood := { row := guideMoreRow, standIns := [], harness := (true, "10d05c66e0ad7a8ed8b38bf95d23b03b67b6bf43744a61fa88817d8c10a50c58"), looks := false }, kinds := [], alts := [], laidByText := true, laidKinds := [.data, .data, .data], laidTests := true, laidLooks := .later }
def GuideMoreCardSaid : Prop := Claim7.holds Tryd.pinned (.plain (OpenSpec.ofChange guideMoreSpec)) guideMoreCard

/-- THE TIED CARD OF 'fishkeep2.GuidePromises'. -/
def guidePromisesCard : Claim7 := { stood := { row := guidePromisesRow, standIns := [], harness := (true, "10d05c66e0ad7a8ed8b38bf95d23b03b67b6bf43744a61fa88817d8c10a50c58"), looks := false }, kinds := [], alts := [], laidByText := true, laidKinds := [.data, .data, .data], laidTests := true, laidLooks := .later }
def GuidePromisesCardSaid : Prop := Claim7.holds Tryd.pinned (.plain (OpenSpec.ofChange guidePromisesSpec)) guidePromisesCard

/-- THE TIED CARD OF 'fishkeep2.GuideSure'. -/
def guideSureCard : Claim7 := { stood := { row := guideSureRow, standIns := [], harness := (true, "10d05c66e0ad7a8ed8b38bf95d23b03b67b6bf43744a61fa88817d8c10a50c58"), looks := false }, kinds := [], alts := [], laidByText := true, laidKinds := [.data, .data, .data], laidTests := true, laidLooks := .later }
def GuideSureCardSaid : Prop := Claim7.holds Tryd.pinned (.plain (OpenSpec.ofChange guideSureSpec)) guideSureCard

/-- THE SECOND FORM's CARD OF 'fishkeep2.GuideTurned'. -/
def guideTurnedUptoCard : Claim7 := { stood := { row := guideTurnedUptoRow, standIns := [], harness := (true, "10d05c66e0ad7a8ed8b38bf95d23b03b67b6bf43744a61fa88817d8c10a50c58"), looks := false }, kinds := [], alts := [], laidByText := true, laidKinds := [.data, .data, .data], laidTests := true, laidLooks := .later }
def GuideTurnedUptoCardSaid : Prop := Claim7.holds Tryd.pinned (.plain (OpenSpec.upto guideTurnedSpec)) guideTurnedUptoCard

/-- THE SECOND FORM's CARD OF 'fishkeep2.GuideMore'. -/
def guideMoreUptoCard : Claim7 := { stood := { row := guideMoreUptoRow, standIns := [], harness := (true, "10d05c66e0ad7a8ed8b38bf95d23b03b67b6bf43744a61fa88817d8c10a50c58"), looks := false }, kinds := [], alts := [], laidByText := true, laidKinds := [.data, .data, .data], laidTests := true, laidLooks := .later }
def GuideMoreUptoCardSaid : Prop := Claim7.holds Tryd.pinned (.plain (OpenSpec.upto guideMoreSpec)) guideMoreUptoCard

/-- THE SECOND FORM's CARD OF 'fishkeep2.GuidePromises'. -/
def guidePromisesUptoCard : Claim7 := { stood := { row := guidePromisesUptoRow, standIns := [], harness := (true, "10d05c66e0ad7a8ed8b38bf95d23b03b67b6bf43744a61fa88817d8c10a50c58"), looks := false }, kinds := [], alts := [], laidByText := true, laidKinds := [.data, .data, .data], laidTests := true, laidLooks := .later }
def GuidePromisesUptoCardSaid : Prop := Claim7.holds Tryd.pinned (.plain (OpenSpec.upto guidePromisesSpec)) guidePromisesUptoCard

/-- THE SECOND FORM's CARD OF 'fishkeep2.GuideSure'. -/
def guideSureUptoCard : Claim7 := { stood := { row := guideSureUptoRow, standIns := [], harness := (true, "10d05c66e0ad7a8ed8b38bf95d23b03b67b6bf43744a61fa88817d8c10a50c58"), looks := false }, kinds := [], alts := [], laidByText := true, laidKinds := [.data, .data, .data], laidTests := true, laidLooks := .later }
def GuideSureUptoCardSaid : Prop := Claim7.holds Tryd.pinned (.plain (OpenSpec.upto guideSureSpec)) guideSureUptoCard
end Rows
end Go.Proofs.YtckgfeglhjiflaaDoor
