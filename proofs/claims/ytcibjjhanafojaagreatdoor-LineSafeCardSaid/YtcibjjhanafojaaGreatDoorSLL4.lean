/- Plain: what a path keeps, and that it keeps it backwards. -/
import Derived.Test.YtcibjjhanafojaaGreatDoorSLR0
set_option linter.unusedVariables false
set_option linter.unusedSimpArgs false
namespace Go.Proofs.YtcibjjhanafojaaGreatDoor
open Go.RowKit Go.Fp

def StepOk (n : ApiNet) (s : ApiStep) : Prop := Has n ⟨s.Section, s.In⟩ ∧ Has n ⟨s.Section, s.Out⟩ ∧ s.Out ∈ outsL (sec n s.Section).Kind s.In
structure PathOk (n : ApiNet) (l : List ApiStep) : Prop where
  step : ∀ s ∈ l, StepOk n s
  join : ∀ k (h : k + 1 < l.length), joinL n.Links ⟨l[k].Section, l[k].Out⟩ = some ⟨l[k + 1].Section, l[k + 1].In⟩
  nd : l.Pairwise (fun a b => a.Section ≠ b.Section)
end Go.Proofs.YtcibjjhanafojaaGreatDoor
