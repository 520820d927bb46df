/-
  No cell of these rows narrows 'for every input' (looked for: loops, veiled, ifaces, maps, wideKeys, modest, calm, conditions, laid).
  DERIVED. THE GIVEN ROWS OF THIS SEAT. 7 by the template 'for every input the law returns true; each argument reads behind the call as it read before'; 0 by the template 'total and deterministic' (their statements: YtajmocgpjkhjlaaTotals.lean).
  GIVEN WITH THE SEED: the statements are not yours to turn. If you find one false, say at which input.
  Laid BY PROGRAM, IN A SANDBOX (cutbox-rows.mjs): the forced cells as the released guide's own fill.sh prints them over the translation 80717e3ac57f2d2b… (all of the seat's roots in one cut). By AI agents, Wed Nov 11 2026. No macro, syntax, notation, axiom, sorry.
-/
import Derived.Test.YtajmocgpjkhjlaaChecked
import GoSem.Claim
import GoSem.ClaimJoined
import GoSem.ClaimMapViews
import Derived.JoinedTies
import Derived.KernelRfl
namespace Go.Proofs.Ytajmocgpjkhjlaa
/- THE CELL 'sum', in the pinned program and in every row, IS THE sha256 OF THE DUMP (.gsa) THAT YtajmocgpjkhjlaaProg.lean LOADS. Nothing in Lean hashes anything: it is a label: what it is worth is what the hold of that sum in a sandbox is worth. -/
noncomputable def Try.pinned : Pinned := { name := "ytajmocgpjkhjlaa", sum := "80717e3ac57f2d2beefa7f2f3c7e3c21df4fb9721c17a40a66b6936538d91d0e", checked := Try.checked }
namespace Rows
def none {H : Type} : Left H := { results := [], args := [] }

/-- 'fishkeep2.FleetEnough': WHATEVER THE INPUT: true; the input reads as it did. -/
def fleetEnoughSpec : ChangeSpec := { name := "fleetEnough", fn := fun _ => fun
  | [d1, d2] => { results := [.lit (.bool true)], args := [d1, d2] }
  | _ => none }
def fleetEnoughRow : OpenClaim := { program := "ytajmocgpjkhjlaa", sum := "80717e3ac57f2d2beefa7f2f3c7e3c21df4fb9721c17a40a66b6936538d91d0e", func := "fishplate/fishkeep2.FleetEnough", spec := "fleetEnough", unfollowed := true, recurses := true, plainKeys := false, apart := false }
def FleetEnoughSaid : Prop := fleetEnoughRow.holds Try.pinned (OpenSpec.ofChange fleetEnoughSpec)

/-- ITS FALSE NEIGHBOUR: 'it returns false'. Refute it at one input. -/
def fleetEnoughWrong : ChangeSpec := { name := "fleetEnough", fn := fun _ => fun
  | [d1, d2] => { results := [.lit (.bool false)], args := [d1, d2] }
  | _ => none }
def FleetEnoughWrongFalsely : Prop := fleetEnoughRow.holds Try.pinned (OpenSpec.ofChange fleetEnoughWrong)

/-- 'fishkeep2.FleetInspected': WHATEVER THE INPUT: true; the input reads as it did. -/
def fleetInspectedSpec : ChangeSpec := { name := "fleetInspected", fn := fun _ => fun
  | [d1, d2, d3, d4, d5] => { results := [.lit (.bool true)], args := [d1, d2, d3, d4, d5] }
  | _ => none }
def fleetInspectedRow : OpenClaim := { program := "ytajmocgpjkhjlaa", sum := "80717e3ac57f2d2beefa7f2f3c7e3c21df4fb9721c17a40a66b6936538d91d0e", func := "fishplate/fishkeep2.FleetInspected", spec := "fleetInspected", unfollowed := true, recurses := true, plainKeys := false, apart := false }
def FleetInspectedSaid : Prop := fleetInspectedRow.holds Try.pinned (OpenSpec.ofChange fleetInspectedSpec)

/-- ITS FALSE NEIGHBOUR: 'it returns false'. Refute it at one input. -/
def fleetInspectedWrong : ChangeSpec := { name := "fleetInspected", fn := fun _ => fun
  | [d1, d2, d3, d4, d5] => { results := [.lit (.bool false)], args := [d1, d2, d3, d4, d5] }
  | _ => none }
def FleetInspectedWrongFalsely : Prop := fleetInspectedRow.holds Try.pinned (OpenSpec.ofChange fleetInspectedWrong)

/-- 'fishkeep2.FleetEmpties': WHATEVER THE INPUT: true; the input reads as it did. -/
def fleetEmptiesSpec : ChangeSpec := { name := "fleetEmpties", fn := fun _ => fun
  | [d1, d2, d3] => { results := [.lit (.bool true)], args := [d1, d2, d3] }
  | _ => none }
def fleetEmptiesRow : OpenClaim := { program := "ytajmocgpjkhjlaa", sum := "80717e3ac57f2d2beefa7f2f3c7e3c21df4fb9721c17a40a66b6936538d91d0e", func := "fishplate/fishkeep2.FleetEmpties", spec := "fleetEmpties", unfollowed := true, recurses := true, plainKeys := false, apart := false }
def FleetEmptiesSaid : Prop := fleetEmptiesRow.holds Try.pinned (OpenSpec.ofChange fleetEmptiesSpec)

/-- ITS FALSE NEIGHBOUR: 'it returns false'. Refute it at one input. -/
def fleetEmptiesWrong : ChangeSpec := { name := "fleetEmpties", fn := fun _ => fun
  | [d1, d2, d3] => { results := [.lit (.bool false)], args := [d1, d2, d3] }
  | _ => none }
def FleetEmptiesWrongFalsely : Prop := fleetEmptiesRow.holds Try.pinned (OpenSpec.ofChange fleetEmptiesWrong)

/-- 'fishkeep2.FleetKept': WHATEVER THE INPUT: true; the input reads as it did. -/
def fleetKeptSpec : ChangeSpec := { name := "fleetKept", fn := fun _ => fun
  | [d1, d2, d3] => { results := [.lit (.bool true)], args := [d1, d2, d3] }
  | _ => none }
def fleetKeptRow : OpenClaim := { program := "ytajmocgpjkhjlaa", sum := "80717e3ac57f2d2beefa7f2f3c7e3c21df4fb9721c17a40a66b6936538d91d0e", func := "fishplate/fishkeep2.FleetKept", spec := "fleetKept", unfollowed := true, recurses := true, plainKeys := false, apart := false }
def FleetKeptSaid : Prop := fleetKeptRow.holds Try.pinned (OpenSpec.ofChange fleetKeptSpec)

/-- ITS FALSE NEIGHBOUR: 'it returns false'. Refute it at one input. -/
def fleetKeptWrong : ChangeSpec := { name := "fleetKept", fn := fun _ => fun
  | [d1, d2, d3] => { results := [.lit (.bool false)], args := [d1, d2, d3] }
  | _ => none }
def FleetKeptWrongFalsely : Prop := fleetKeptRow.holds Try.pinned (OpenSpec.ofChange fleetKeptWrong)

/-- 'fishkeep2.FleetShunted': WHATEVER THE INPUT: true; the input reads as it did. -/
def fleetShuntedSpec : ChangeSpec := { name := "fleetShunted", fn := fun _ => fun
  | [d1, d2, d3] => { results := [.lit (.bool true)], args := [d1, d2, d3] }
  | _ => none }
def fleetShuntedRow : OpenClaim := { program := "ytajmocgpjkhjlaa", sum := "80717e3ac57f2d2beefa7f2f3c7e3c21df4fb9721c17a40a66b6936538d91d0e", func := "fishplate/fishkeep2.FleetShunted", spec := "fleetShunted", unfollowed := true, recurses := true, plainKeys := false, apart := false }
def FleetShuntedSaid : Prop := fleetShuntedRow.holds Try.pinned (OpenSpec.ofChange fleetShuntedSpec)

/-- ITS FALSE NEIGHBOUR: 'it returns false'. Refute it at one input. -/
def fleetShuntedWrong : ChangeSpec := { name := "fleetShunted", fn := fun _ => fun
  | [d1, d2, d3] => { results := [.lit (.bool false)], args := [d1, d2, d3] }
  | _ => none }
def FleetShuntedWrongFalsely : Prop := fleetShuntedRow.holds Try.pinned (OpenSpec.ofChange fleetShuntedWrong)

/-- 'fishkeep2.FleetAssigned': WHATEVER THE INPUT: true; the input reads as it did. -/
def fleetAssignedSpec : ChangeSpec := { name := "fleetAssigned", fn := fun _ => fun
  | [d1, d2, d3, d4] => { results := [.lit (.bool true)], args := [d1, d2, d3, d4] }
  | _ => none }
def fleetAssignedRow : OpenClaim := { program := "ytajmocgpjkhjlaa", sum := "80717e3ac57f2d2beefa7f2f3c7e3c21df4fb9721c17a40a66b6936538d91d0e", func := "fishplate/fishkeep2.FleetAssigned", spec := "fleetAssigned", unfollowed := true, recurses := true, plainKeys := false, apart := false }
def FleetAssignedSaid : Prop := fleetAssignedRow.holds Try.pinned (OpenSpec.ofChange fleetAssignedSpec)

/-- ITS FALSE NEIGHBOUR: 'it returns false'. Refute it at one input. -/
def fleetAssignedWrong : ChangeSpec := { name := "fleetAssigned", fn := fun _ => fun
  | [d1, d2, d3, d4] => { results := [.lit (.bool false)], args := [d1, d2, d3, d4] }
  | _ => none }
def FleetAssignedWrongFalsely : Prop := fleetAssignedRow.holds Try.pinned (OpenSpec.ofChange fleetAssignedWrong)

/-- 'fishkeep2.FleetFair': WHATEVER THE INPUT: true; the input reads as it did. -/
def fleetFairSpec : ChangeSpec := { name := "fleetFair", fn := fun _ => fun
  | [d1, d2, d3, d4] => { results := [.lit (.bool true)], args := [d1, d2, d3, d4] }
  | _ => none }
def fleetFairRow : OpenClaim := { program := "ytajmocgpjkhjlaa", sum := "80717e3ac57f2d2beefa7f2f3c7e3c21df4fb9721c17a40a66b6936538d91d0e", func := "fishplate/fishkeep2.FleetFair", spec := "fleetFair", unfollowed := true, recurses := true, plainKeys := false, apart := false }
def FleetFairSaid : Prop := fleetFairRow.holds Try.pinned (OpenSpec.ofChange fleetFairSpec)

/-- ITS FALSE NEIGHBOUR: 'it returns false'. Refute it at one input. -/
def fleetFairWrong : ChangeSpec := { name := "fleetFair", fn := fun _ => fun
  | [d1, d2, d3, d4] => { results := [.lit (.bool false)], args := [d1, d2, d3, d4] }
  | _ => none }
def FleetFairWrongFalsely : Prop := fleetFairRow.holds Try.pinned (OpenSpec.ofChange fleetFairWrong)

/- THE SECOND FORM. 'bulk': how many values and letters a reading holds, each counted each time it is reached (what is shared counts as often as it is met; a slice's spare places count too). A statement '..UptoSaid' is the law's where the arguments, and the package variables that the reading takes, are together of bulk at most 1048576: NARROWER than '..Said'. Prove '..Said' where nothing that the law and all that it calls make is longer than what came in: it says more and counts as full. Else prove '..UptoSaid'. A law counts once. -/
mutual
def uptoBulk {H : Type} : DataW H → Nat
  | .lit (.string bytes) => bytes.length + 1
  | .lit _ => 1
  | .nil => 1
  | .ptr d => uptoBulk d + 1
  | .slice elems spare => uptoBulkAll elems + uptoBulkAll spare + 1
  | .agg parts => uptoBulkAll parts + 1
  | .iface _ d => uptoBulk d + 1
  | .map entries => uptoBulkEntries entries + 1
  | .held _ => 1
def uptoBulkAll {H : Type} : List (DataW H) → Nat
  | [] => 0
  | d :: r => uptoBulk d + uptoBulkAll r
def uptoBulkEntries {H : Type} : List (Lit × DataW H) → Nat
  | [] => 0
  | x :: r => uptoBulkEntry x + uptoBulkEntries r
def uptoBulkEntry {H : Type} : Lit × DataW H → Nat
  | (.string bytes, d) => bytes.length + uptoBulk d + 1
  | (_, d) => uptoBulk d + 1
 end
def uptoSmall : (H : Type) → List (DataW H) → Bool := fun _ ds => decide (uptoBulkAll ds ≤ 1048576)
def OpenSpec.upto (s : _root_.Go.ChangeSpec) : _root_.Go.OpenSpec := { _root_.Go.OpenSpec.ofChange s with cond := some uptoSmall }

/-- 'fishkeep2.FleetEnough', WHERE WHAT IT READS IS OF BULK AT MOST 1048576: true; the input reads as it did. -/
def fleetEnoughUptoRow : OpenClaim := { program := "ytajmocgpjkhjlaa", sum := "80717e3ac57f2d2beefa7f2f3c7e3c21df4fb9721c17a40a66b6936538d91d0e", func := "fishplate/fishkeep2.FleetEnough", spec := "fleetEnough", unfollowed := true, recurses := true, plainKeys := false, apart := false, narrowed := true }
def FleetEnoughUptoSaid : Prop := fleetEnoughUptoRow.holds Try.pinned (OpenSpec.upto fleetEnoughSpec)

/-- 'fishkeep2.FleetInspected', WHERE WHAT IT READS IS OF BULK AT MOST 1048576: true; the input reads as it did. -/
def fleetInspectedUptoRow : OpenClaim := { program := "ytajmocgpjkhjlaa", sum := "80717e3ac57f2d2beefa7f2f3c7e3c21df4fb9721c17a40a66b6936538d91d0e", func := "fishplate/fishkeep2.FleetInspected", spec := "fleetInspected", unfollowed := true, recurses := true, plainKeys := false, apart := false, narrowed := true }
def FleetInspectedUptoSaid : Prop := fleetInspectedUptoRow.holds Try.pinned (OpenSpec.upto fleetInspectedSpec)

/-- 'fishkeep2.FleetEmpties', WHERE WHAT IT READS IS OF BULK AT MOST 1048576: true; the input reads as it did. -/
def fleetEmptiesUptoRow : OpenClaim := { program := "ytajmocgpjkhjlaa", sum := "80717e3ac57f2d2beefa7f2f3c7e3c21df4fb9721c17a40a66b6936538d91d0e", func := "fishplate/fishkeep2.FleetEmpties", spec := "fleetEmpties", unfollowed := true, recurses := true, plainKeys := false, apart := false, narrowed := true }
def FleetEmptiesUptoSaid : Prop := fleetEmptiesUptoRow.holds Try.pinned (OpenSpec.upto fleetEmptiesSpec)

/-- 'fishkeep2.FleetKept', WHERE WHAT IT READS IS OF BULK AT MOST 1048576: true; the input reads as it did. -/
def fleetKeptUptoRow : OpenClaim := { program := "ytajmocgpjkhjlaa", sum := "80717e3ac57f2d2beefa7f2f3c7e3c21df4fb9721c17a40a66b6936538d91d0e", func := "fishplate/fishkeep2.FleetKept", spec := "fleetKept", unfollowed := true, recurses := true, plainKeys := false, apart := false, narrowed := true }
def FleetKeptUptoSaid : Prop := fleetKeptUptoRow.holds Try.pinned (OpenSpec.upto fleetKeptSpec)

/-- 'fishkeep2.FleetShunted', WHERE WHAT IT READS IS OF BULK AT MOST 1048576: true; the input reads as it did. -/
def fleetShuntedUptoRow : OpenClaim := { program := "ytajmocgpjkhjlaa", sum := "80717e3ac57f2d2beefa7f2f3c7e3c21df4fb9721c17a40a66b6936538d91d0e", func := "fishplate/fishkeep2.FleetShunted", spec := "fleetShunted", unfollowed := true, recurses := true, plainKeys := false, apart := false, narrowed := true }
def FleetShuntedUptoSaid : Prop := fleetShuntedUptoRow.holds Try.pinned (OpenSpec.upto fleetShuntedSpec)

/-- 'fishkeep2.FleetAssigned', WHERE WHAT IT READS IS OF BULK AT MOST 1048576: true; the input reads as it did. -/
def fleetAssignedUptoRow : OpenClaim := { program := "ytajmocgpjkhjlaa", sum := "80717e3ac57f2d2beefa7f2f3c7e3c21df4fb9721c17a40a66b6936538d91d0e", func := "fishplate/fishkeep2.FleetAssigned", spec := "fleetAssigned", unfollowed := true, recurses := true, plainKeys := false, apart := false, narrowed := true }
def FleetAssignedUptoSaid : Prop := fleetAssignedUptoRow.holds Try.pinned (OpenSpec.upto fleetAssignedSpec)

/-- 'fishkeep2.FleetFair', WHERE WHAT IT READS IS OF BULK AT MOST 1048576: true; the input reads as it did. -/
def fleetFairUptoRow : OpenClaim := { program := "ytajmocgpjkhjlaa", sum := "80717e3ac57f2d2beefa7f2f3c7e3c21df4fb9721c17a40a66b6936538d91d0e", func := "fishplate/fishkeep2.FleetFair", spec := "fleetFair", unfollowed := true, recurses := true, plainKeys := false, apart := false, narrowed := true }
def FleetFairUptoSaid : Prop := fleetFairUptoRow.holds Try.pinned (OpenSpec.upto fleetFairSpec)

end Rows
end Go.Proofs.Ytajmocgpjkhjlaa
