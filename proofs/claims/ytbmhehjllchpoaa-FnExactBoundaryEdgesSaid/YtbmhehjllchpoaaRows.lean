/-
  No cell of these rows narrows 'for every input' (looked for: loops, veiled, ifaces, maps, wideKeys, modest, calm, conditions, laid).
  DERIVED. THE GIVEN ROWS OF THIS SEAT. 11 by the template 'for every input the law returns true; each argument reads behind the call as it read before'; 0 by the template 'total and deterministic' (their statements: YtbmhehjllchpoaaTotals.lean).
  GIVEN WITH THE SEED: the statements are not yours to turn. If you find one false, say at which input.
  Laid BY PROGRAM, IN A SANDBOX (cutbox-rows.mjs): the forced cells as the released guide's own fill.sh prints them over the translation a7860ebbbd21482d… (all of the seat's roots in one cut). By AI agents, Wed Nov 11 2026. No macro, syntax, notation, axiom, sorry.
-/
import Derived.Test.YtbmhehjllchpoaaChecked
import GoSem.Claim
import GoSem.ClaimJoined
import GoSem.ClaimMapViews
import Derived.JoinedTies
import Derived.KernelRfl
namespace Go.Proofs.Ytbmhehjllchpoaa
/- THE CELL 'sum', in the pinned program and in every row, IS THE sha256 OF THE DUMP (.gsa) THAT YtbmhehjllchpoaaProg.lean LOADS. Nothing in Lean hashes anything: it is a label: what it is worth is what the hold of that sum in a sandbox is worth. -/
noncomputable def Try.pinned : Pinned := { name := "ytbmhehjllchpoaa", sum := "a7860ebbbd21482d785c16c49273b0b970a499d0b6515eeb4b4e49d348f7fb7c", checked := Try.checked }
namespace Rows
def none {H : Type} : Left H := { results := [], args := [] }

/-- 'laws.FnExactIsValidMesh': WHATEVER THE INPUT: true; the input reads as it did. -/
def fnExactIsValidMeshSpec : ChangeSpec := { name := "fnExactIsValidMesh", fn := fun _ => fun
  | [d] => { results := [.lit (.bool true)], args := [d] }
  | _ => none }
def fnExactIsValidMeshRow : OpenClaim := { program := "ytbmhehjllchpoaa", sum := "a7860ebbbd21482d785c16c49273b0b970a499d0b6515eeb4b4e49d348f7fb7c", func := "loop.example/g00809/laws.FnExactIsValidMesh", spec := "fnExactIsValidMesh", unfollowed := true, recurses := true, plainKeys := false, apart := false }
def FnExactIsValidMeshSaid : Prop := fnExactIsValidMeshRow.holds Try.pinned (OpenSpec.ofChange fnExactIsValidMeshSpec)

/-- ITS FALSE NEIGHBOUR: 'it returns false'. Refute it at one input. -/
def fnExactIsValidMeshWrong : ChangeSpec := { name := "fnExactIsValidMesh", fn := fun _ => fun
  | [d] => { results := [.lit (.bool false)], args := [d] }
  | _ => none }
def FnExactIsValidMeshWrongFalsely : Prop := fnExactIsValidMeshRow.holds Try.pinned (OpenSpec.ofChange fnExactIsValidMeshWrong)

/-- 'laws.FnExactFacePoint': WHATEVER THE INPUT: true; the input reads as it did. -/
def fnExactFacePointSpec : ChangeSpec := { name := "fnExactFacePoint", fn := fun _ => fun
  | [d1, d2] => { results := [.lit (.bool true)], args := [d1, d2] }
  | _ => none }
def fnExactFacePointRow : OpenClaim := { program := "ytbmhehjllchpoaa", sum := "a7860ebbbd21482d785c16c49273b0b970a499d0b6515eeb4b4e49d348f7fb7c", func := "loop.example/g00809/laws.FnExactFacePoint", spec := "fnExactFacePoint", unfollowed := true, recurses := true, plainKeys := false, apart := false }
def FnExactFacePointSaid : Prop := fnExactFacePointRow.holds Try.pinned (OpenSpec.ofChange fnExactFacePointSpec)

/-- ITS FALSE NEIGHBOUR: 'it returns false'. Refute it at one input. -/
def fnExactFacePointWrong : ChangeSpec := { name := "fnExactFacePoint", fn := fun _ => fun
  | [d1, d2] => { results := [.lit (.bool false)], args := [d1, d2] }
  | _ => none }
def FnExactFacePointWrongFalsely : Prop := fnExactFacePointRow.holds Try.pinned (OpenSpec.ofChange fnExactFacePointWrong)

/-- 'laws.FnExactVertexFaces': WHATEVER THE INPUT: true; the input reads as it did. -/
def fnExactVertexFacesSpec : ChangeSpec := { name := "fnExactVertexFaces", fn := fun _ => fun
  | [d1, d2] => { results := [.lit (.bool true)], args := [d1, d2] }
  | _ => none }
def fnExactVertexFacesRow : OpenClaim := { program := "ytbmhehjllchpoaa", sum := "a7860ebbbd21482d785c16c49273b0b970a499d0b6515eeb4b4e49d348f7fb7c", func := "loop.example/g00809/laws.FnExactVertexFaces", spec := "fnExactVertexFaces", unfollowed := true, recurses := true, plainKeys := false, apart := false }
def FnExactVertexFacesSaid : Prop := fnExactVertexFacesRow.holds Try.pinned (OpenSpec.ofChange fnExactVertexFacesSpec)

/-- ITS FALSE NEIGHBOUR: 'it returns false'. Refute it at one input. -/
def fnExactVertexFacesWrong : ChangeSpec := { name := "fnExactVertexFaces", fn := fun _ => fun
  | [d1, d2] => { results := [.lit (.bool false)], args := [d1, d2] }
  | _ => none }
def FnExactVertexFacesWrongFalsely : Prop := fnExactVertexFacesRow.holds Try.pinned (OpenSpec.ofChange fnExactVertexFacesWrong)

/-- 'laws.FnExactEdgeFaces': WHATEVER THE INPUT: true; the input reads as it did. -/
def fnExactEdgeFacesSpec : ChangeSpec := { name := "fnExactEdgeFaces", fn := fun _ => fun
  | [d1, d2, d3] => { results := [.lit (.bool true)], args := [d1, d2, d3] }
  | _ => none }
def fnExactEdgeFacesRow : OpenClaim := { program := "ytbmhehjllchpoaa", sum := "a7860ebbbd21482d785c16c49273b0b970a499d0b6515eeb4b4e49d348f7fb7c", func := "loop.example/g00809/laws.FnExactEdgeFaces", spec := "fnExactEdgeFaces", unfollowed := true, recurses := true, plainKeys := false, apart := false }
def FnExactEdgeFacesSaid : Prop := fnExactEdgeFacesRow.holds Try.pinned (OpenSpec.ofChange fnExactEdgeFacesSpec)

/-- ITS FALSE NEIGHBOUR: 'it returns false'. Refute it at one input. -/
def fnExactEdgeFacesWrong : ChangeSpec := { name := "fnExactEdgeFaces", fn := fun _ => fun
  | [d1, d2, d3] => { results := [.lit (.bool false)], args := [d1, d2, d3] }
  | _ => none }
def FnExactEdgeFacesWrongFalsely : Prop := fnExactEdgeFacesRow.holds Try.pinned (OpenSpec.ofChange fnExactEdgeFacesWrong)

/-- 'laws.FnExactEulerCharacteristic': WHATEVER THE INPUT: true; the input reads as it did. -/
def fnExactEulerCharacteristicSpec : ChangeSpec := { name := "fnExactEulerCharacteristic", fn := fun _ => fun
  | [d] => { results := [.lit (.bool true)], args := [d] }
  | _ => none }
def fnExactEulerCharacteristicRow : OpenClaim := { program := "ytbmhehjllchpoaa", sum := "a7860ebbbd21482d785c16c49273b0b970a499d0b6515eeb4b4e49d348f7fb7c", func := "loop.example/g00809/laws.FnExactEulerCharacteristic", spec := "fnExactEulerCharacteristic", unfollowed := true, recurses := true, plainKeys := false, apart := false }
def FnExactEulerCharacteristicSaid : Prop := fnExactEulerCharacteristicRow.holds Try.pinned (OpenSpec.ofChange fnExactEulerCharacteristicSpec)

/-- ITS FALSE NEIGHBOUR: 'it returns false'. Refute it at one input. -/
def fnExactEulerCharacteristicWrong : ChangeSpec := { name := "fnExactEulerCharacteristic", fn := fun _ => fun
  | [d] => { results := [.lit (.bool false)], args := [d] }
  | _ => none }
def FnExactEulerCharacteristicWrongFalsely : Prop := fnExactEulerCharacteristicRow.holds Try.pinned (OpenSpec.ofChange fnExactEulerCharacteristicWrong)

/-- 'laws.FnExactFacePatches': WHATEVER THE INPUT: true; the input reads as it did. -/
def fnExactFacePatchesSpec : ChangeSpec := { name := "fnExactFacePatches", fn := fun _ => fun
  | [d] => { results := [.lit (.bool true)], args := [d] }
  | _ => none }
def fnExactFacePatchesRow : OpenClaim := { program := "ytbmhehjllchpoaa", sum := "a7860ebbbd21482d785c16c49273b0b970a499d0b6515eeb4b4e49d348f7fb7c", func := "loop.example/g00809/laws.FnExactFacePatches", spec := "fnExactFacePatches", unfollowed := true, recurses := true, plainKeys := false, apart := false }
def FnExactFacePatchesSaid : Prop := fnExactFacePatchesRow.holds Try.pinned (OpenSpec.ofChange fnExactFacePatchesSpec)

/-- ITS FALSE NEIGHBOUR: 'it returns false'. Refute it at one input. -/
def fnExactFacePatchesWrong : ChangeSpec := { name := "fnExactFacePatches", fn := fun _ => fun
  | [d] => { results := [.lit (.bool false)], args := [d] }
  | _ => none }
def FnExactFacePatchesWrongFalsely : Prop := fnExactFacePatchesRow.holds Try.pinned (OpenSpec.ofChange fnExactFacePatchesWrong)

/-- 'laws.FnExactEdgePoint': WHATEVER THE INPUT: true; the input reads as it did. -/
def fnExactEdgePointSpec : ChangeSpec := { name := "fnExactEdgePoint", fn := fun _ => fun
  | [d1, d2, d3] => { results := [.lit (.bool true)], args := [d1, d2, d3] }
  | _ => none }
def fnExactEdgePointRow : OpenClaim := { program := "ytbmhehjllchpoaa", sum := "a7860ebbbd21482d785c16c49273b0b970a499d0b6515eeb4b4e49d348f7fb7c", func := "loop.example/g00809/laws.FnExactEdgePoint", spec := "fnExactEdgePoint", unfollowed := true, recurses := true, plainKeys := false, apart := false }
def FnExactEdgePointSaid : Prop := fnExactEdgePointRow.holds Try.pinned (OpenSpec.ofChange fnExactEdgePointSpec)

/-- ITS FALSE NEIGHBOUR: 'it returns false'. Refute it at one input. -/
def fnExactEdgePointWrong : ChangeSpec := { name := "fnExactEdgePoint", fn := fun _ => fun
  | [d1, d2, d3] => { results := [.lit (.bool false)], args := [d1, d2, d3] }
  | _ => none }
def FnExactEdgePointWrongFalsely : Prop := fnExactEdgePointRow.holds Try.pinned (OpenSpec.ofChange fnExactEdgePointWrong)

/-- 'laws.FnExactIsClosed': WHATEVER THE INPUT: true; the input reads as it did. -/
def fnExactIsClosedSpec : ChangeSpec := { name := "fnExactIsClosed", fn := fun _ => fun
  | [d] => { results := [.lit (.bool true)], args := [d] }
  | _ => none }
def fnExactIsClosedRow : OpenClaim := { program := "ytbmhehjllchpoaa", sum := "a7860ebbbd21482d785c16c49273b0b970a499d0b6515eeb4b4e49d348f7fb7c", func := "loop.example/g00809/laws.FnExactIsClosed", spec := "fnExactIsClosed", unfollowed := true, recurses := true, plainKeys := false, apart := false }
def FnExactIsClosedSaid : Prop := fnExactIsClosedRow.holds Try.pinned (OpenSpec.ofChange fnExactIsClosedSpec)

/-- ITS FALSE NEIGHBOUR: 'it returns false'. Refute it at one input. -/
def fnExactIsClosedWrong : ChangeSpec := { name := "fnExactIsClosed", fn := fun _ => fun
  | [d] => { results := [.lit (.bool false)], args := [d] }
  | _ => none }
def FnExactIsClosedWrongFalsely : Prop := fnExactIsClosedRow.holds Try.pinned (OpenSpec.ofChange fnExactIsClosedWrong)

/-- 'laws.FnExactEdges': WHATEVER THE INPUT: true; the input reads as it did. -/
def fnExactEdgesSpec : ChangeSpec := { name := "fnExactEdges", fn := fun _ => fun
  | [d] => { results := [.lit (.bool true)], args := [d] }
  | _ => none }
def fnExactEdgesRow : OpenClaim := { program := "ytbmhehjllchpoaa", sum := "a7860ebbbd21482d785c16c49273b0b970a499d0b6515eeb4b4e49d348f7fb7c", func := "loop.example/g00809/laws.FnExactEdges", spec := "fnExactEdges", unfollowed := true, recurses := true, plainKeys := false, apart := false }
def FnExactEdgesSaid : Prop := fnExactEdgesRow.holds Try.pinned (OpenSpec.ofChange fnExactEdgesSpec)

/-- ITS FALSE NEIGHBOUR: 'it returns false'. Refute it at one input. -/
def fnExactEdgesWrong : ChangeSpec := { name := "fnExactEdges", fn := fun _ => fun
  | [d] => { results := [.lit (.bool false)], args := [d] }
  | _ => none }
def FnExactEdgesWrongFalsely : Prop := fnExactEdgesRow.holds Try.pinned (OpenSpec.ofChange fnExactEdgesWrong)

/-- 'laws.FnExactBoundaryEdges': WHATEVER THE INPUT: true; the input reads as it did. -/
def fnExactBoundaryEdgesSpec : ChangeSpec := { name := "fnExactBoundaryEdges", fn := fun _ => fun
  | [d] => { results := [.lit (.bool true)], args := [d] }
  | _ => none }
def fnExactBoundaryEdgesRow : OpenClaim := { program := "ytbmhehjllchpoaa", sum := "a7860ebbbd21482d785c16c49273b0b970a499d0b6515eeb4b4e49d348f7fb7c", func := "loop.example/g00809/laws.FnExactBoundaryEdges", spec := "fnExactBoundaryEdges", unfollowed := true, recurses := true, plainKeys := false, apart := false }
def FnExactBoundaryEdgesSaid : Prop := fnExactBoundaryEdgesRow.holds Try.pinned (OpenSpec.ofChange fnExactBoundaryEdgesSpec)

/-- ITS FALSE NEIGHBOUR: 'it returns false'. Refute it at one input. -/
def fnExactBoundaryEdgesWrong : ChangeSpec := { name := "fnExactBoundaryEdges", fn := fun _ => fun
  | [d] => { results := [.lit (.bool false)], args := [d] }
  | _ => none }
def FnExactBoundaryEdgesWrongFalsely : Prop := fnExactBoundaryEdgesRow.holds Try.pinned (OpenSpec.ofChange fnExactBoundaryEdgesWrong)

/-- 'laws.FnExactNeighbors': WHATEVER THE INPUT: true; the input reads as it did. -/
def fnExactNeighborsSpec : ChangeSpec := { name := "fnExactNeighbors", fn := fun _ => fun
  | [d1, d2] => { results := [.lit (.bool true)], args := [d1, d2] }
  | _ => none }
def fnExactNeighborsRow : OpenClaim := { program := "ytbmhehjllchpoaa", sum := "a7860ebbbd21482d785c16c49273b0b970a499d0b6515eeb4b4e49d348f7fb7c", func := "loop.example/g00809/laws.FnExactNeighbors", spec := "fnExactNeighbors", unfollowed := true, recurses := true, plainKeys := false, apart := false }
def FnExactNeighborsSaid : Prop := fnExactNeighborsRow.holds Try.pinned (OpenSpec.ofChange fnExactNeighborsSpec)

/-- ITS FALSE NEIGHBOUR: 'it returns false'. Refute it at one input. -/
def fnExactNeighborsWrong : ChangeSpec := { name := "fnExactNeighbors", fn := fun _ => fun
  | [d1, d2] => { results := [.lit (.bool false)], args := [d1, d2] }
  | _ => none }
def FnExactNeighborsWrongFalsely : Prop := fnExactNeighborsRow.holds Try.pinned (OpenSpec.ofChange fnExactNeighborsWrong)

/- THE SECOND FORM. 'bulk': how many values and letters a reading holds, each counted each time it is reached (what is shared counts as often as it is met; a slice's spare places count too). A statement '..UptoSaid' is the law's where the arguments, and the package variables that the reading takes, are together of bulk at most 1048576: NARROWER than '..Said'. Prove '..Said' where nothing that the law and all that it calls make is longer than what came in: it says more and counts as full. Else prove '..UptoSaid'. A law counts once. -/
mutual
def uptoBulk {H : Type} : DataW H → Nat
  | .lit (.string bytes) => bytes.length + 1
  | .lit _ => 1
  | .nil => 1
  | .ptr d => uptoBulk d + 1
  | .slice elems spare => uptoBulkAll elems + uptoBulkAll spare + 1
  | .agg parts => uptoBulkAll parts + 1
  | .iface _ d => uptoBulk d + 1
  | .map entries => uptoBulkEntries entries + 1
  | .held _ => 1
def uptoBulkAll {H : Type} : List (DataW H) → Nat
  | [] => 0
  | d :: r => uptoBulk d + uptoBulkAll r
def uptoBulkEntries {H : Type} : List (Lit × DataW H) → Nat
  | [] => 0
  | x :: r => uptoBulkEntry x + uptoBulkEntries r
def uptoBulkEntry {H : Type} : Lit × DataW H → Nat
  | (.string bytes, d) => bytes.length + uptoBulk d + 1
  | (_, d) => uptoBulk d + 1
 end
def uptoSmall : (H : Type) → List (DataW H) → Bool := fun _ ds => decide (uptoBulkAll ds ≤ 1048576)
def OpenSpec.upto (s : _root_.Go.ChangeSpec) : _root_.Go.OpenSpec := { _root_.Go.OpenSpec.ofChange s with cond := some uptoSmall }

/-- 'laws.FnExactIsValidMesh', WHERE WHAT IT READS IS OF BULK AT MOST 1048576: true; the input reads as it did. -/
def fnExactIsValidMeshUptoRow : OpenClaim := { program := "ytbmhehjllchpoaa", sum := "a7860ebbbd21482d785c16c49273b0b970a499d0b6515eeb4b4e49d348f7fb7c", func := "loop.example/g00809/laws.FnExactIsValidMesh", spec := "fnExactIsValidMesh", unfollowed := true, recurses := true, plainKeys := false, apart := false, narrowed := true }
def FnExactIsValidMeshUptoSaid : Prop := fnExactIsValidMeshUptoRow.holds Try.pinned (OpenSpec.upto fnExactIsValidMeshSpec)

/-- 'laws.FnExactFacePoint', WHERE WHAT IT READS IS OF BULK AT MOST 1048576: true; the input reads as it did. -/
def fnExactFacePointUptoRow : OpenClaim := { program := "ytbmhehjllchpoaa", sum := "a7860ebbbd21482d785c16c49273b0b970a499d0b6515eeb4b4e49d348f7fb7c", func := "loop.example/g00809/laws.FnExactFacePoint", spec := "fnExactFacePoint", unfollowed := true, recurses := true, plainKeys := false, apart := false, narrowed := true }
def FnExactFacePointUptoSaid : Prop := fnExactFacePointUptoRow.holds Try.pinned (OpenSpec.upto fnExactFacePointSpec)

/-- 'laws.FnExactVertexFaces', WHERE WHAT IT READS IS OF BULK AT MOST 1048576: true; the input reads as it did. -/
def fnExactVertexFacesUptoRow : OpenClaim := { program := "ytbmhehjllchpoaa", sum := "a7860ebbbd21482d785c16c49273b0b970a499d0b6515eeb4b4e49d348f7fb7c", func := "loop.example/g00809/laws.FnExactVertexFaces", spec := "fnExactVertexFaces", unfollowed := true, recurses := true, plainKeys := false, apart := false, narrowed := true }
def FnExactVertexFacesUptoSaid : Prop := fnExactVertexFacesUptoRow.holds Try.pinned (OpenSpec.upto fnExactVertexFacesSpec)

/-- 'laws.FnExactEdgeFaces', WHERE WHAT IT READS IS OF BULK AT MOST 1048576: true; the input reads as it did. -/
def fnExactEdgeFacesUptoRow : OpenClaim := { program := "ytbmhehjllchpoaa", sum := "a7860ebbbd21482d785c16c49273b0b970a499d0b6515eeb4b4e49d348f7fb7c", func := "loop.example/g00809/laws.FnExactEdgeFaces", spec := "fnExactEdgeFaces", unfollowed := true, recurses := true, plainKeys := false, apart := false, narrowed := true }
def FnExactEdgeFacesUptoSaid : Prop := fnExactEdgeFacesUptoRow.holds Try.pinned (OpenSpec.upto fnExactEdgeFacesSpec)

/-- 'laws.FnExactEulerCharacteristic', WHERE WHAT IT READS IS OF BULK AT MOST 1048576: true; the input reads as it did. -/
def fnExactEulerCharacteristicUptoRow : OpenClaim := { program := "ytbmhehjllchpoaa", sum := "a7860ebbbd21482d785c16c49273b0b970a499d0b6515eeb4b4e49d348f7fb7c", func := "loop.example/g00809/laws.FnExactEulerCharacteristic", spec := "fnExactEulerCharacteristic", unfollowed := true, recurses := true, plainKeys := false, apart := false, narrowed := true }
def FnExactEulerCharacteristicUptoSaid : Prop := fnExactEulerCharacteristicUptoRow.holds Try.pinned (OpenSpec.upto fnExactEulerCharacteristicSpec)

/-- 'laws.FnExactFacePatches', WHERE WHAT IT READS IS OF BULK AT MOST 1048576: true; the input reads as it did. -/
def fnExactFacePatchesUptoRow : OpenClaim := { program := "ytbmhehjllchpoaa", sum := "a7860ebbbd21482d785c16c49273b0b970a499d0b6515eeb4b4e49d348f7fb7c", func := "loop.example/g00809/laws.FnExactFacePatches", spec := "fnExactFacePatches", unfollowed := true, recurses := true, plainKeys := false, apart := false, narrowed := true }
def FnExactFacePatchesUptoSaid : Prop := fnExactFacePatchesUptoRow.holds Try.pinned (OpenSpec.upto fnExactFacePatchesSpec)

/-- 'laws.FnExactEdgePoint', WHERE WHAT IT READS IS OF BULK AT MOST 1048576: true; the input reads as it did. -/
def fnExactEdgePointUptoRow : OpenClaim := { program := "ytbmhehjllchpoaa", sum := "a7860ebbbd21482d785c16c49273b0b970a499d0b6515eeb4b4e49d348f7fb7c", func := "loop.example/g00809/laws.FnExactEdgePoint", spec := "fnExactEdgePoint", unfollowed := true, recurses := true, plainKeys := false, apart := false, narrowed := true }
def FnExactEdgePointUptoSaid : Prop := fnExactEdgePointUptoRow.holds Try.pinned (OpenSpec.upto fnExactEdgePointSpec)

/-- 'laws.FnExactIsClosed', WHERE WHAT IT READS IS OF BULK AT MOST 1048576: true; the input reads as it did. -/
def fnExactIsClosedUptoRow : OpenClaim := { program := "ytbmhehjllchpoaa", sum := "a7860ebbbd21482d785c16c49273b0b970a499d0b6515eeb4b4e49d348f7fb7c", func := "loop.example/g00809/laws.FnExactIsClosed", spec := "fnExactIsClosed", unfollowed := true, recurses := true, plainKeys := false, apart := false, narrowed := true }
def FnExactIsClosedUptoSaid : Prop := fnExactIsClosedUptoRow.holds Try.pinned (OpenSpec.upto fnExactIsClosedSpec)

/-- 'laws.FnExactEdges', WHERE WHAT IT READS IS OF BULK AT MOST 1048576: true; the input reads as it did. -/
def fnExactEdgesUptoRow : OpenClaim := { program := "ytbmhehjllchpoaa", sum := "a7860ebbbd21482d785c16c49273b0b970a499d0b6515eeb4b4e49d348f7fb7c", func := "loop.example/g00809/laws.FnExactEdges", spec := "fnExactEdges", unfollowed := true, recurses := true, plainKeys := false, apart := false, narrowed := true }
def FnExactEdgesUptoSaid : Prop := fnExactEdgesUptoRow.holds Try.pinned (OpenSpec.upto fnExactEdgesSpec)

/-- 'laws.FnExactBoundaryEdges', WHERE WHAT IT READS IS OF BULK AT MOST 1048576: true; the input reads as it did. -/
def fnExactBoundaryEdgesUptoRow : OpenClaim := { program := "ytbmhehjllchpoaa", sum := "a7860ebbbd21482d785c16c49273b0b970a499d0b6515eeb4b4e49d348f7fb7c", func := "loop.example/g00809/laws.FnExactBoundaryEdges", spec := "fnExactBoundaryEdges", unfollowed := true, recurses := true, plainKeys := false, apart := false, narrowed := true }
def FnExactBoundaryEdgesUptoSaid : Prop := fnExactBoundaryEdgesUptoRow.holds Try.pinned (OpenSpec.upto fnExactBoundaryEdgesSpec)

/-- 'laws.FnExactNeighbors', WHERE WHAT IT READS IS OF BULK AT MOST 1048576: true; the input reads as it did. -/
def fnExactNeighborsUptoRow : OpenClaim := { program := "ytbmhehjllchpoaa", sum := "a7860ebbbd21482d785c16c49273b0b970a499d0b6515eeb4b4e49d348f7fb7c", func := "loop.example/g00809/laws.FnExactNeighbors", spec := "fnExactNeighbors", unfollowed := true, recurses := true, plainKeys := false, apart := false, narrowed := true }
def FnExactNeighborsUptoSaid : Prop := fnExactNeighborsUptoRow.holds Try.pinned (OpenSpec.upto fnExactNeighborsSpec)

end Rows
end Go.Proofs.Ytbmhehjllchpoaa
