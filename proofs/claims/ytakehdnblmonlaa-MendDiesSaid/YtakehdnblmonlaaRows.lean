/-
  No cell of these rows narrows 'for every input' (looked for: loops, veiled, ifaces, maps, wideKeys, modest, calm, conditions, laid).
  DERIVED. THE GIVEN ROWS OF THIS SEAT. 4 by the template 'for every input the law returns true; each argument reads behind the call as it read before'; 0 by the template 'total and deterministic' (their statements: YtakehdnblmonlaaTotals.lean).
  GIVEN WITH THE SEED: the statements are not yours to turn. If you find one false, say at which input.
  Laid BY PROGRAM, IN A SANDBOX (cutbox-rows.mjs): the forced cells as the released guide's own fill.sh prints them over the translation f88bbea753589783… (all of the seat's roots in one cut). By AI agents, Wed Nov 11 2026. No macro, syntax, notation, axiom, sorry.
-/
import Derived.Test.YtakehdnblmonlaaChecked
import GoSem.Claim
import GoSem.ClaimJoined
import GoSem.ClaimMapViews
import Derived.JoinedTies
import Derived.KernelRfl
namespace Go.Proofs.Ytakehdnblmonlaa
/- THE CELL 'sum', in the pinned program and in every row, IS THE sha256 OF THE DUMP (.gsa) THAT YtakehdnblmonlaaProg.lean LOADS. Nothing in Lean hashes anything: it is a label: what it is worth is what the hold of that sum in a sandbox is worth. -/
noncomputable def Try.pinned : Pinned := { name := "ytakehdnblmonlaa", sum := "f88bbea753589783b6bd478ec41850a32444d7e9786080a60fc2b2c0389f48a8", checked := Try.checked }
namespace Rows
def none {H : Type} : Left H := { results := [], args := [] }

/-- 'fishkeep2.MendLeast': WHATEVER THE INPUT: true; the input reads as it did. -/
def mendLeastSpec : ChangeSpec := { name := "mendLeast", fn := fun _ => fun
  | [d1, d2, d3] => { results := [.lit (.bool true)], args := [d1, d2, d3] }
  | _ => none }
def mendLeastRow : OpenClaim := { program := "ytakehdnblmonlaa", sum := "f88bbea753589783b6bd478ec41850a32444d7e9786080a60fc2b2c0389f48a8", func := "fishplate/fishkeep2.MendLeast", spec := "mendLeast", unfollowed := true, recurses := true, apart := false }
def MendLeastSaid : Prop := mendLeastRow.holds Try.pinned (OpenSpec.ofChange mendLeastSpec)

/-- ITS FALSE NEIGHBOUR: 'it returns false'. Refute it at one input. -/
def mendLeastWrong : ChangeSpec := { name := "mendLeast", fn := fun _ => fun
  | [d1, d2, d3] => { results := [.lit (.bool false)], args := [d1, d2, d3] }
  | _ => none }
def MendLeastWrongFalsely : Prop := mendLeastRow.holds Try.pinned (OpenSpec.ofChange mendLeastWrong)

/-- 'fishkeep2.MendBound': WHATEVER THE INPUT: true; the input reads as it did. -/
def mendBoundSpec : ChangeSpec := { name := "mendBound", fn := fun _ => fun
  | [d1, d2, d3] => { results := [.lit (.bool true)], args := [d1, d2, d3] }
  | _ => none }
def mendBoundRow : OpenClaim := { program := "ytakehdnblmonlaa", sum := "f88bbea753589783b6bd478ec41850a32444d7e9786080a60fc2b2c0389f48a8", func := "fishplate/fishkeep2.MendBound", spec := "mendBound", unfollowed := true, recurses := true, apart := false }
def MendBoundSaid : Prop := mendBoundRow.holds Try.pinned (OpenSpec.ofChange mendBoundSpec)

/-- ITS FALSE NEIGHBOUR: 'it returns false'. Refute it at one input. -/
def mendBoundWrong : ChangeSpec := { name := "mendBound", fn := fun _ => fun
  | [d1, d2, d3] => { results := [.lit (.bool false)], args := [d1, d2, d3] }
  | _ => none }
def MendBoundWrongFalsely : Prop := mendBoundRow.holds Try.pinned (OpenSpec.ofChange mendBoundWrong)

/-- 'fishkeep2.MendCloses': WHATEVER THE INPUT: true; the input reads as it did. -/
def mendClosesSpec : ChangeSpec := { name := "mendCloses", fn := fun _ => fun
  | [d] => { results := [.lit (.bool true)], args := [d] }
  | _ => none }
def mendClosesRow : OpenClaim := { program := "ytakehdnblmonlaa", sum := "f88bbea753589783b6bd478ec41850a32444d7e9786080a60fc2b2c0389f48a8", func := "fishplate/fishkeep2.MendCloses", spec := "mendCloses", unfollowed := true, recurses := true, apart := false }
def MendClosesSaid : Prop := mendClosesRow.holds Try.pinned (OpenSpec.ofChange mendClosesSpec)

/-- ITS FALSE NEIGHBOUR: 'it returns false'. Refute it at one input. -/
def mendClosesWrong : ChangeSpec := { name := "mendCloses", fn := fun _ => fun
  | [d] => { results := [.lit (.bool false)], args := [d] }
  | _ => none }
def MendClosesWrongFalsely : Prop := mendClosesRow.holds Try.pinned (OpenSpec.ofChange mendClosesWrong)

/-- 'fishkeep2.MendDies': WHATEVER THE INPUT: true; the input reads as it did. -/
def mendDiesSpec : ChangeSpec := { name := "mendDies", fn := fun _ => fun
  | [d1, d2] => { results := [.lit (.bool true)], args := [d1, d2] }
  | _ => none }
def mendDiesRow : OpenClaim := { program := "ytakehdnblmonlaa", sum := "f88bbea753589783b6bd478ec41850a32444d7e9786080a60fc2b2c0389f48a8", func := "fishplate/fishkeep2.MendDies", spec := "mendDies", unfollowed := true, recurses := true, apart := false }
def MendDiesSaid : Prop := mendDiesRow.holds Try.pinned (OpenSpec.ofChange mendDiesSpec)

/-- ITS FALSE NEIGHBOUR: 'it returns false'. Refute it at one input. -/
def mendDiesWrong : ChangeSpec := { name := "mendDies", fn := fun _ => fun
  | [d1, d2] => { results := [.lit (.bool false)], args := [d1, d2] }
  | _ => none }
def MendDiesWrongFalsely : Prop := mendDiesRow.holds Try.pinned (OpenSpec.ofChange mendDiesWrong)

/- THE SECOND FORM. 'bulk': how many values and letters a reading holds, each counted each time it is reached (what is shared counts as often as it is met; a slice's spare places count too). A statement '..UptoSaid' is the law's where the arguments, and the package variables that the reading takes, are together of bulk at most 1048576: NARROWER than '..Said'. Prove '..Said' where nothing that the law and all that it calls make is longer than what came in: it says more and counts as full. Else prove '..UptoSaid'. A law counts once. -/
mutual
def uptoBulk {H : Type} : DataW H → Nat
  | .lit (.string bytes) => bytes.length + 1
  | .lit _ => 1
  | .nil => 1
  | .ptr d => uptoBulk d + 1
  | .slice elems spare => uptoBulkAll elems + uptoBulkAll spare + 1
  | .agg parts => uptoBulkAll parts + 1
  | .iface _ d => uptoBulk d + 1
  | .map entries => uptoBulkEntries entries + 1
  | .held _ => 1
def uptoBulkAll {H : Type} : List (DataW H) → Nat
  | [] => 0
  | d :: r => uptoBulk d + uptoBulkAll r
def uptoBulkEntries {H : Type} : List (Lit × DataW H) → Nat
  | [] => 0
  | x :: r => uptoBulkEntry x + uptoBulkEntries r
def uptoBulkEntry {H : Type} : Lit × DataW H → Nat
  | (.string bytes, d) => bytes.length + uptoBulk d + 1
  | (_, d) => uptoBulk d + 1
 end
def uptoSmall : (H : Type) → List (DataW H) → Bool := fun _ ds => decide (uptoBulkAll ds ≤ 1048576)
def OpenSpec.upto (s : _root_.Go.ChangeSpec) : _root_.Go.OpenSpec := { _root_.Go.OpenSpec.ofChange s with cond := some uptoSmall }

/-- 'fishkeep2.MendLeast', WHERE WHAT IT READS IS OF BULK AT MOST 1048576: true; the input reads as it did. -/
def mendLeastUptoRow : OpenClaim := { program := "ytakehdnblmonlaa", sum := "f88bbea753589783b6bd478ec41850a32444d7e9786080a60fc2b2c0389f48a8", func := "fishplate/fishkeep2.MendLeast", spec := "mendLeast", unfollowed := true, recurses := true, apart := false, narrowed := true }
def MendLeastUptoSaid : Prop := mendLeastUptoRow.holds Try.pinned (OpenSpec.upto mendLeastSpec)

/-- 'fishkeep2.MendBound', WHERE WHAT IT READS IS OF BULK AT MOST 1048576: true; the input reads as it did. -/
def mendBoundUptoRow : OpenClaim := { program := "ytakehdnblmonlaa", sum := "f88bbea753589783b6bd478ec41850a32444d7e9786080a60fc2b2c0389f48a8", func := "fishplate/fishkeep2.MendBound", spec := "mendBound", unfollowed := true, recurses := true, apart := false, narrowed := true }
def MendBoundUptoSaid : Prop := mendBoundUptoRow.holds Try.pinned (OpenSpec.upto mendBoundSpec)

/-- 'fishkeep2.MendCloses', WHERE WHAT IT READS IS OF BULK AT MOST 1048576: true; the input reads as it did. -/
def mendClosesUptoRow : OpenClaim := { program := "ytakehdnblmonlaa", sum := "f88bbea753589783b6bd478ec41850a32444d7e9786080a60fc2b2c0389f48a8", func := "fishplate/fishkeep2.MendCloses", spec := "mendCloses", unfollowed := true, recurses := true, apart := false, narrowed := true }
def MendClosesUptoSaid : Prop := mendClosesUptoRow.holds Try.pinned (OpenSpec.upto mendClosesSpec)

/-- 'fishkeep2.MendDies', WHERE WHAT IT READS IS OF BULK AT MOST 1048576: true; the input reads as it did. -/
def mendDiesUptoRow : OpenClaim := { program := "ytakehdnblmonlaa", sum := "f88bbea753589783b6bd478ec41850a32444d7e9786080a60fc2b2c0389f48a8", func := "fishplate/fishkeep2.MendDies", spec := "mendDies", unfollowed := true, recurses := true, apart := false, narrowed := true }
def MendDiesUptoSaid : Prop := mendDiesUptoRow.holds Try.pinned (OpenSpec.upto mendDiesSpec)

end Rows
end Go.Proofs.Ytakehdnblmonlaa
