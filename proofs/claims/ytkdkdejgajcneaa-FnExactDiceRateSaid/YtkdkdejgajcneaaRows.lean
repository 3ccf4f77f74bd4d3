/-
  No cell of these rows narrows 'for every input' (looked for: loops, veiled, ifaces, maps, wideKeys, modest, calm, conditions, laid).
  DERIVED. THE GIVEN ROWS OF THIS SEAT. 12 by the template 'for every input the law returns true; each argument reads behind the call as it read before'; 0 by the template 'total and deterministic' (their statements: YtkdkdejgajcneaaTotals.lean).
  GIVEN WITH THE SEED: the statements are not yours to turn. If you find one false, say at which input.
  Laid BY PROGRAM, IN A SANDBOX (cutbox-rows.mjs): the forced cells as the released guide's own fill.sh prints them over the translation e7450fb7e803df1c… (all of the seat's roots in one cut). By AI agents, Wed Nov 11 2026. No macro, syntax, notation, axiom, sorry.
-/
import Derived.Test.YtkdkdejgajcneaaChecked
import GoSem.Claim
import GoSem.ClaimJoined
import GoSem.ClaimMapViews
import Derived.JoinedTies
import Derived.KernelRfl
namespace Go.Proofs.Ytkdkdejgajcneaa
/- THE CELL 'sum', in the pinned program and in every row, IS THE sha256 OF THE DUMP (.gsa) THAT YtkdkdejgajcneaaProg.lean LOADS. Nothing in Lean hashes anything: it is a label: what it is worth is what the hold of that sum in a sandbox is worth. -/
noncomputable def Try.pinned : Pinned := { name := "ytkdkdejgajcneaa", sum := "e7450fb7e803df1c78be8e0f3b5abec9581bac62f5e69457f26533fe46c5f4fa", checked := Try.checked }
namespace Rows
def none {H : Type} : Left H := { results := [], args := [] }

/-- 'laws.FnDicing': WHATEVER THE INPUT: true; the input reads as it did. -/
def fnDicingSpec : ChangeSpec := { name := "fnDicing", fn := fun _ => fun
  | [d] => { results := [.lit (.bool true)], args := [d] }
  | _ => none }
def fnDicingRow : OpenClaim := { program := "ytkdkdejgajcneaa", sum := "e7450fb7e803df1c78be8e0f3b5abec9581bac62f5e69457f26533fe46c5f4fa", func := "loop.example/g00809/laws.FnDicing", spec := "fnDicing", unfollowed := true, recurses := true, apart := false }
def FnDicingSaid : Prop := fnDicingRow.holds Try.pinned (OpenSpec.ofChange fnDicingSpec)

/-- ITS FALSE NEIGHBOUR: 'it returns false'. Refute it at one input. -/
def fnDicingWrong : ChangeSpec := { name := "fnDicing", fn := fun _ => fun
  | [d] => { results := [.lit (.bool false)], args := [d] }
  | _ => none }
def FnDicingWrongFalsely : Prop := fnDicingRow.holds Try.pinned (OpenSpec.ofChange fnDicingWrong)

/-- 'laws.FnExactDiceRate': WHATEVER THE INPUT: true; the input reads as it did. -/
def fnExactDiceRateSpec : ChangeSpec := { name := "fnExactDiceRate", fn := fun _ => fun
  | [d1, d2, d3] => { results := [.lit (.bool true)], args := [d1, d2, d3] }
  | _ => none }
def fnExactDiceRateRow : OpenClaim := { program := "ytkdkdejgajcneaa", sum := "e7450fb7e803df1c78be8e0f3b5abec9581bac62f5e69457f26533fe46c5f4fa", func := "loop.example/g00809/laws.FnExactDiceRate", spec := "fnExactDiceRate", unfollowed := true, recurses := true, apart := false }
def FnExactDiceRateSaid : Prop := fnExactDiceRateRow.holds Try.pinned (OpenSpec.ofChange fnExactDiceRateSpec)

/-- ITS FALSE NEIGHBOUR: 'it returns false'. Refute it at one input. -/
def fnExactDiceRateWrong : ChangeSpec := { name := "fnExactDiceRate", fn := fun _ => fun
  | [d1, d2, d3] => { results := [.lit (.bool false)], args := [d1, d2, d3] }
  | _ => none }
def FnExactDiceRateWrongFalsely : Prop := fnExactDiceRateRow.holds Try.pinned (OpenSpec.ofChange fnExactDiceRateWrong)

/-- 'laws.FnExactDiceCell': WHATEVER THE INPUT: true; the input reads as it did. -/
def fnExactDiceCellSpec : ChangeSpec := { name := "fnExactDiceCell", fn := fun _ => fun
  | [d1, d2, d3, d4, d5, d6, d7] => { results := [.lit (.bool true)], args := [d1, d2, d3, d4, d5, d6, d7] }
  | _ => none }
def fnExactDiceCellRow : OpenClaim := { program := "ytkdkdejgajcneaa", sum := "e7450fb7e803df1c78be8e0f3b5abec9581bac62f5e69457f26533fe46c5f4fa", func := "loop.example/g00809/laws.FnExactDiceCell", spec := "fnExactDiceCell", unfollowed := true, recurses := true, apart := false }
def FnExactDiceCellSaid : Prop := fnExactDiceCellRow.holds Try.pinned (OpenSpec.ofChange fnExactDiceCellSpec)

/-- ITS FALSE NEIGHBOUR: 'it returns false'. Refute it at one input. -/
def fnExactDiceCellWrong : ChangeSpec := { name := "fnExactDiceCell", fn := fun _ => fun
  | [d1, d2, d3, d4, d5, d6, d7] => { results := [.lit (.bool false)], args := [d1, d2, d3, d4, d5, d6, d7] }
  | _ => none }
def FnExactDiceCellWrongFalsely : Prop := fnExactDiceCellRow.holds Try.pinned (OpenSpec.ofChange fnExactDiceCellWrong)

/-- 'laws.FnExactDicePatch': WHATEVER THE INPUT: true; the input reads as it did. -/
def fnExactDicePatchSpec : ChangeSpec := { name := "fnExactDicePatch", fn := fun _ => fun
  | [d1, d2, d3, d4, d5] => { results := [.lit (.bool true)], args := [d1, d2, d3, d4, d5] }
  | _ => none }
def fnExactDicePatchRow : OpenClaim := { program := "ytkdkdejgajcneaa", sum := "e7450fb7e803df1c78be8e0f3b5abec9581bac62f5e69457f26533fe46c5f4fa", func := "loop.example/g00809/laws.FnExactDicePatch", spec := "fnExactDicePatch", unfollowed := true, recurses := true, apart := false }
def FnExactDicePatchSaid : Prop := fnExactDicePatchRow.holds Try.pinned (OpenSpec.ofChange fnExactDicePatchSpec)

/-- ITS FALSE NEIGHBOUR: 'it returns false'. Refute it at one input. -/
def fnExactDicePatchWrong : ChangeSpec := { name := "fnExactDicePatch", fn := fun _ => fun
  | [d1, d2, d3, d4, d5] => { results := [.lit (.bool false)], args := [d1, d2, d3, d4, d5] }
  | _ => none }
def FnExactDicePatchWrongFalsely : Prop := fnExactDicePatchRow.holds Try.pinned (OpenSpec.ofChange fnExactDicePatchWrong)

/-- 'laws.FnExactDiceSubPatch': WHATEVER THE INPUT: true; the input reads as it did. -/
def fnExactDiceSubPatchSpec : ChangeSpec := { name := "fnExactDiceSubPatch", fn := fun _ => fun
  | [d1, d2, d3, d4, d5, d6] => { results := [.lit (.bool true)], args := [d1, d2, d3, d4, d5, d6] }
  | _ => none }
def fnExactDiceSubPatchRow : OpenClaim := { program := "ytkdkdejgajcneaa", sum := "e7450fb7e803df1c78be8e0f3b5abec9581bac62f5e69457f26533fe46c5f4fa", func := "loop.example/g00809/laws.FnExactDiceSubPatch", spec := "fnExactDiceSubPatch", unfollowed := true, recurses := true, apart := false }
def FnExactDiceSubPatchSaid : Prop := fnExactDiceSubPatchRow.holds Try.pinned (OpenSpec.ofChange fnExactDiceSubPatchSpec)

/-- ITS FALSE NEIGHBOUR: 'it returns false'. Refute it at one input. -/
def fnExactDiceSubPatchWrong : ChangeSpec := { name := "fnExactDiceSubPatch", fn := fun _ => fun
  | [d1, d2, d3, d4, d5, d6] => { results := [.lit (.bool false)], args := [d1, d2, d3, d4, d5, d6] }
  | _ => none }
def FnExactDiceSubPatchWrongFalsely : Prop := fnExactDiceSubPatchRow.holds Try.pinned (OpenSpec.ofChange fnExactDiceSubPatchWrong)

/-- 'laws.FnExactSameMicropolygons': WHATEVER THE INPUT: true; the input reads as it did. -/
def fnExactSameMicropolygonsSpec : ChangeSpec := { name := "fnExactSameMicropolygons", fn := fun _ => fun
  | [d1, d2] => { results := [.lit (.bool true)], args := [d1, d2] }
  | _ => none }
def fnExactSameMicropolygonsRow : OpenClaim := { program := "ytkdkdejgajcneaa", sum := "e7450fb7e803df1c78be8e0f3b5abec9581bac62f5e69457f26533fe46c5f4fa", func := "loop.example/g00809/laws.FnExactSameMicropolygons", spec := "fnExactSameMicropolygons", apart := false }
def FnExactSameMicropolygonsSaid : Prop := fnExactSameMicropolygonsRow.holds Try.pinned (OpenSpec.ofChange fnExactSameMicropolygonsSpec)

/-- ITS FALSE NEIGHBOUR: 'it returns false'. Refute it at one input. -/
def fnExactSameMicropolygonsWrong : ChangeSpec := { name := "fnExactSameMicropolygons", fn := fun _ => fun
  | [d1, d2] => { results := [.lit (.bool false)], args := [d1, d2] }
  | _ => none }
def FnExactSameMicropolygonsWrongFalsely : Prop := fnExactSameMicropolygonsRow.holds Try.pinned (OpenSpec.ofChange fnExactSameMicropolygonsWrong)

/-- 'laws.FnCracks': WHATEVER THE INPUT: true; the input reads as it did. -/
def fnCracksSpec : ChangeSpec := { name := "fnCracks", fn := fun _ => fun
  | [d] => { results := [.lit (.bool true)], args := [d] }
  | _ => none }
def fnCracksRow : OpenClaim := { program := "ytkdkdejgajcneaa", sum := "e7450fb7e803df1c78be8e0f3b5abec9581bac62f5e69457f26533fe46c5f4fa", func := "loop.example/g00809/laws.FnCracks", spec := "fnCracks", unfollowed := true, recurses := true, apart := false }
def FnCracksSaid : Prop := fnCracksRow.holds Try.pinned (OpenSpec.ofChange fnCracksSpec)

/-- ITS FALSE NEIGHBOUR: 'it returns false'. Refute it at one input. -/
def fnCracksWrong : ChangeSpec := { name := "fnCracks", fn := fun _ => fun
  | [d] => { results := [.lit (.bool false)], args := [d] }
  | _ => none }
def FnCracksWrongFalsely : Prop := fnCracksRow.holds Try.pinned (OpenSpec.ofChange fnCracksWrong)

/-- 'laws.FnMotion': WHATEVER THE INPUT: true; the input reads as it did. -/
def fnMotionSpec : ChangeSpec := { name := "fnMotion", fn := fun _ => fun
  | [d] => { results := [.lit (.bool true)], args := [d] }
  | _ => none }
def fnMotionRow : OpenClaim := { program := "ytkdkdejgajcneaa", sum := "e7450fb7e803df1c78be8e0f3b5abec9581bac62f5e69457f26533fe46c5f4fa", func := "loop.example/g00809/laws.FnMotion", spec := "fnMotion", unfollowed := true, recurses := true, apart := false }
def FnMotionSaid : Prop := fnMotionRow.holds Try.pinned (OpenSpec.ofChange fnMotionSpec)

/-- ITS FALSE NEIGHBOUR: 'it returns false'. Refute it at one input. -/
def fnMotionWrong : ChangeSpec := { name := "fnMotion", fn := fun _ => fun
  | [d] => { results := [.lit (.bool false)], args := [d] }
  | _ => none }
def FnMotionWrongFalsely : Prop := fnMotionRow.holds Try.pinned (OpenSpec.ofChange fnMotionWrong)

/-- 'laws.FnExactInterpolatePatch': WHATEVER THE INPUT: true; the input reads as it did. -/
def fnExactInterpolatePatchSpec : ChangeSpec := { name := "fnExactInterpolatePatch", fn := fun _ => fun
  | [d1, d2, d3] => { results := [.lit (.bool true)], args := [d1, d2, d3] }
  | _ => none }
def fnExactInterpolatePatchRow : OpenClaim := { program := "ytkdkdejgajcneaa", sum := "e7450fb7e803df1c78be8e0f3b5abec9581bac62f5e69457f26533fe46c5f4fa", func := "loop.example/g00809/laws.FnExactInterpolatePatch", spec := "fnExactInterpolatePatch", unfollowed := true, recurses := true, apart := false }
def FnExactInterpolatePatchSaid : Prop := fnExactInterpolatePatchRow.holds Try.pinned (OpenSpec.ofChange fnExactInterpolatePatchSpec)

/-- ITS FALSE NEIGHBOUR: 'it returns false'. Refute it at one input. -/
def fnExactInterpolatePatchWrong : ChangeSpec := { name := "fnExactInterpolatePatch", fn := fun _ => fun
  | [d1, d2, d3] => { results := [.lit (.bool false)], args := [d1, d2, d3] }
  | _ => none }
def FnExactInterpolatePatchWrongFalsely : Prop := fnExactInterpolatePatchRow.holds Try.pinned (OpenSpec.ofChange fnExactInterpolatePatchWrong)

/-- 'laws.FnExactFlipTriangle': WHATEVER THE INPUT: true; the input reads as it did. -/
def fnExactFlipTriangleSpec : ChangeSpec := { name := "fnExactFlipTriangle", fn := fun _ => fun
  | [d] => { results := [.lit (.bool true)], args := [d] }
  | _ => none }
def fnExactFlipTriangleRow : OpenClaim := { program := "ytkdkdejgajcneaa", sum := "e7450fb7e803df1c78be8e0f3b5abec9581bac62f5e69457f26533fe46c5f4fa", func := "loop.example/g00809/laws.FnExactFlipTriangle", spec := "fnExactFlipTriangle", apart := false }
def FnExactFlipTriangleSaid : Prop := fnExactFlipTriangleRow.holds Try.pinned (OpenSpec.ofChange fnExactFlipTriangleSpec)

/-- ITS FALSE NEIGHBOUR: 'it returns false'. Refute it at one input. -/
def fnExactFlipTriangleWrong : ChangeSpec := { name := "fnExactFlipTriangle", fn := fun _ => fun
  | [d] => { results := [.lit (.bool false)], args := [d] }
  | _ => none }
def FnExactFlipTriangleWrongFalsely : Prop := fnExactFlipTriangleRow.holds Try.pinned (OpenSpec.ofChange fnExactFlipTriangleWrong)

/-- 'laws.FnExactViewBounds': WHATEVER THE INPUT: true; the input reads as it did. -/
def fnExactViewBoundsSpec : ChangeSpec := { name := "fnExactViewBounds", fn := fun _ => fun
  | [d] => { results := [.lit (.bool true)], args := [d] }
  | _ => none }
def fnExactViewBoundsRow : OpenClaim := { program := "ytkdkdejgajcneaa", sum := "e7450fb7e803df1c78be8e0f3b5abec9581bac62f5e69457f26533fe46c5f4fa", func := "loop.example/g00809/laws.FnExactViewBounds", spec := "fnExactViewBounds", apart := false }
def FnExactViewBoundsSaid : Prop := fnExactViewBoundsRow.holds Try.pinned (OpenSpec.ofChange fnExactViewBoundsSpec)

/-- ITS FALSE NEIGHBOUR: 'it returns false'. Refute it at one input. -/
def fnExactViewBoundsWrong : ChangeSpec := { name := "fnExactViewBounds", fn := fun _ => fun
  | [d] => { results := [.lit (.bool false)], args := [d] }
  | _ => none }
def FnExactViewBoundsWrongFalsely : Prop := fnExactViewBoundsRow.holds Try.pinned (OpenSpec.ofChange fnExactViewBoundsWrong)

/-- 'laws.FnExactProject': WHATEVER THE INPUT: true; the input reads as it did. -/
def fnExactProjectSpec : ChangeSpec := { name := "fnExactProject", fn := fun _ => fun
  | [d1, d2, d3, d4] => { results := [.lit (.bool true)], args := [d1, d2, d3, d4] }
  | _ => none }
def fnExactProjectRow : OpenClaim := { program := "ytkdkdejgajcneaa", sum := "e7450fb7e803df1c78be8e0f3b5abec9581bac62f5e69457f26533fe46c5f4fa", func := "loop.example/g00809/laws.FnExactProject", spec := "fnExactProject", unfollowed := true, recurses := true, apart := false }
def FnExactProjectSaid : Prop := fnExactProjectRow.holds Try.pinned (OpenSpec.ofChange fnExactProjectSpec)

/-- ITS FALSE NEIGHBOUR: 'it returns false'. Refute it at one input. -/
def fnExactProjectWrong : ChangeSpec := { name := "fnExactProject", fn := fun _ => fun
  | [d1, d2, d3, d4] => { results := [.lit (.bool false)], args := [d1, d2, d3, d4] }
  | _ => none }
def FnExactProjectWrongFalsely : Prop := fnExactProjectRow.holds Try.pinned (OpenSpec.ofChange fnExactProjectWrong)

/- THE SECOND FORM. 'bulk': how many values and letters a reading holds, each counted each time it is reached (what is shared counts as often as it is met; a slice's spare places count too). A statement '..UptoSaid' is the law's where the arguments, and the package variables that the reading takes, are together of bulk at most 1048576: NARROWER than '..Said'. Prove '..Said' where nothing that the law and all that it calls make is longer than what came in: it says more and counts as full. Else prove '..UptoSaid'. A law counts once. -/
mutual
def uptoBulk {H : Type} : DataW H → Nat
  | .lit (.string bytes) => bytes.length + 1
  | .lit _ => 1
  | .nil => 1
  | .ptr d => uptoBulk d + 1
  | .slice elems spare => uptoBulkAll elems + uptoBulkAll spare + 1
  | .agg parts => uptoBulkAll parts + 1
  | .iface _ d => uptoBulk d + 1
  | .map entries => uptoBulkEntries entries + 1
  | .held _ => 1
def uptoBulkAll {H : Type} : List (DataW H) → Nat
  | [] => 0
  | d :: r => uptoBulk d + uptoBulkAll r
def uptoBulkEntries {H : Type} : List (Lit × DataW H) → Nat
  | [] => 0
  | x :: r => uptoBulkEntry x + uptoBulkEntries r
def uptoBulkEntry {H : Type} : Lit × DataW H → Nat
  | (.string bytes, d) => bytes.length + uptoBulk d + 1
  | (_, d) => uptoBulk d + 1
 end
def uptoSmall : (H : Type) → List (DataW H) → Bool := fun _ ds => decide (uptoBulkAll ds ≤ 1048576)
def OpenSpec.upto (s : _root_.Go.ChangeSpec) : _root_.Go.OpenSpec := { _root_.Go.OpenSpec.ofChange s with cond := some uptoSmall }

/-- 'laws.FnDicing', WHERE WHAT IT READS IS OF BULK AT MOST 1048576: true; the input reads as it did. -/
def fnDicingUptoRow : OpenClaim := { program := "ytkdkdejgajcneaa", sum := "e7450fb7e803df1c78be8e0f3b5abec9581bac62f5e69457f26533fe46c5f4fa", func := "loop.example/g00809/laws.FnDicing", spec := "fnDicing", unfollowed := true, recurses := true, apart := false, narrowed := true }
def FnDicingUptoSaid : Prop := fnDicingUptoRow.holds Try.pinned (OpenSpec.upto fnDicingSpec)

/-- 'laws.FnExactDiceRate', WHERE WHAT IT READS IS OF BULK AT MOST 1048576: true; the input reads as it did. -/
def fnExactDiceRateUptoRow : OpenClaim := { program := "ytkdkdejgajcneaa", sum := "e7450fb7e803df1c78be8e0f3b5abec9581bac62f5e69457f26533fe46c5f4fa", func := "loop.example/g00809/laws.FnExactDiceRate", spec := "fnExactDiceRate", unfollowed := true, recurses := true, apart := false, narrowed := true }
def FnExactDiceRateUptoSaid : Prop := fnExactDiceRateUptoRow.holds Try.pinned (OpenSpec.upto fnExactDiceRateSpec)

/-- 'laws.FnExactDiceCell', WHERE WHAT IT READS IS OF BULK AT MOST 1048576: true; the input reads as it did. -/
def fnExactDiceCellUptoRow : OpenClaim := { program := "ytkdkdejgajcneaa", sum := "e7450fb7e803df1c78be8e0f3b5abec9581bac62f5e69457f26533fe46c5f4fa", func := "loop.example/g00809/laws.FnExactDiceCell", spec := "fnExactDiceCell", unfollowed := true, recurses := true, apart := false, narrowed := true }
def FnExactDiceCellUptoSaid : Prop := fnExactDiceCellUptoRow.holds Try.pinned (OpenSpec.upto fnExactDiceCellSpec)

/-- 'laws.FnExactDicePatch', WHERE WHAT IT READS IS OF BULK AT MOST 1048576: true; the input reads as it did. -/
def fnExactDicePatchUptoRow : OpenClaim := { program := "ytkdkdejgajcneaa", sum := "e7450fb7e803df1c78be8e0f3b5abec9581bac62f5e69457f26533fe46c5f4fa", func := "loop.example/g00809/laws.FnExactDicePatch", spec := "fnExactDicePatch", unfollowed := true, recurses := true, apart := false, narrowed := true }
def FnExactDicePatchUptoSaid : Prop := fnExactDicePatchUptoRow.holds Try.pinned (OpenSpec.upto fnExactDicePatchSpec)

/-- 'laws.FnExactDiceSubPatch', WHERE WHAT IT READS IS OF BULK AT MOST 1048576: true; the input reads as it did. -/
def fnExactDiceSubPatchUptoRow : OpenClaim := { program := "ytkdkdejgajcneaa", sum := "e7450fb7e803df1c78be8e0f3b5abec9581bac62f5e69457f26533fe46c5f4fa", func := "loop.example/g00809/laws.FnExactDiceSubPatch", spec := "fnExactDiceSubPatch", unfollowed := true, recurses := true, apart := false, narrowed := true }
def FnExactDiceSubPatchUptoSaid : Prop := fnExactDiceSubPatchUptoRow.holds Try.pinned (OpenSpec.upto fnExactDiceSubPatchSpec)

/-- 'laws.FnExactSameMicropolygons', WHERE WHAT IT READS IS OF BULK AT MOST 1048576: true; the input reads as it did. -/
def fnExactSameMicropolygonsUptoRow : OpenClaim := { program := "ytkdkdejgajcneaa", sum := "e7450fb7e803df1c78be8e0f3b5abec9581bac62f5e69457f26533fe46c5f4fa", func := "loop.example/g00809/laws.FnExactSameMicropolygons", spec := "fnExactSameMicropolygons", apart := false, narrowed := true }
def FnExactSameMicropolygonsUptoSaid : Prop := fnExactSameMicropolygonsUptoRow.holds Try.pinned (OpenSpec.upto fnExactSameMicropolygonsSpec)

/-- 'laws.FnCracks', WHERE WHAT IT READS IS OF BULK AT MOST 1048576: true; the input reads as it did. -/
def fnCracksUptoRow : OpenClaim := { program := "ytkdkdejgajcneaa", sum := "e7450fb7e803df1c78be8e0f3b5abec9581bac62f5e69457f26533fe46c5f4fa", func := "loop.example/g00809/laws.FnCracks", spec := "fnCracks", unfollowed := true, recurses := true, apart := false, narrowed := true }
def FnCracksUptoSaid : Prop := fnCracksUptoRow.holds Try.pinned (OpenSpec.upto fnCracksSpec)

/-- 'laws.FnMotion', WHERE WHAT IT READS IS OF BULK AT MOST 1048576: true; the input reads as it did. -/
def fnMotionUptoRow : OpenClaim := { program := "ytkdkdejgajcneaa", sum := "e7450fb7e803df1c78be8e0f3b5abec9581bac62f5e69457f26533fe46c5f4fa", func := "loop.example/g00809/laws.FnMotion", spec := "fnMotion", unfollowed := true, recurses := true, apart := false, narrowed := true }
def FnMotionUptoSaid : Prop := fnMotionUptoRow.holds Try.pinned (OpenSpec.upto fnMotionSpec)

/-- 'laws.FnExactInterpolatePatch', WHERE WHAT IT READS IS OF BULK AT MOST 1048576: true; the input reads as it did. -/
def fnExactInterpolatePatchUptoRow : OpenClaim := { program := "ytkdkdejgajcneaa", sum := "e7450fb7e803df1c78be8e0f3b5abec9581bac62f5e69457f26533fe46c5f4fa", func := "loop.example/g00809/laws.FnExactInterpolatePatch", spec := "fnExactInterpolatePatch", unfollowed := true, recurses := true, apart := false, narrowed := true }
def FnExactInterpolatePatchUptoSaid : Prop := fnExactInterpolatePatchUptoRow.holds Try.pinned (OpenSpec.upto fnExactInterpolatePatchSpec)

/-- 'laws.FnExactFlipTriangle', WHERE WHAT IT READS IS OF BULK AT MOST 1048576: true; the input reads as it did. -/
def fnExactFlipTriangleUptoRow : OpenClaim := { program := "ytkdkdejgajcneaa", sum := "e7450fb7e803df1c78be8e0f3b5abec9581bac62f5e69457f26533fe46c5f4fa", func := "loop.example/g00809/laws.FnExactFlipTriangle", spec := "fnExactFlipTriangle", apart := false, narrowed := true }
def FnExactFlipTriangleUptoSaid : Prop := fnExactFlipTriangleUptoRow.holds Try.pinned (OpenSpec.upto fnExactFlipTriangleSpec)

/-- 'laws.FnExactViewBounds', WHERE WHAT IT READS IS OF BULK AT MOST 1048576: true; the input reads as it did. -/
def fnExactViewBoundsUptoRow : OpenClaim := { program := "ytkdkdejgajcneaa", sum := "e7450fb7e803df1c78be8e0f3b5abec9581bac62f5e69457f26533fe46c5f4fa", func := "loop.example/g00809/laws.FnExactViewBounds", spec := "fnExactViewBounds", apart := false, narrowed := true }
def FnExactViewBoundsUptoSaid : Prop := fnExactViewBoundsUptoRow.holds Try.pinned (OpenSpec.upto fnExactViewBoundsSpec)

/-- 'laws.FnExactProject', WHERE WHAT IT READS IS OF BULK AT MOST 1048576: true; the input reads as it did. -/
def fnExactProjectUptoRow : OpenClaim := { program := "ytkdkdejgajcneaa", sum := "e7450fb7e803df1c78be8e0f3b5abec9581bac62f5e69457f26533fe46c5f4fa", func := "loop.example/g00809/laws.FnExactProject", spec := "fnExactProject", unfollowed := true, recurses := true, apart := false, narrowed := true }
def FnExactProjectUptoSaid : Prop := fnExactProjectUptoRow.holds Try.pinned (OpenSpec.upto fnExactProjectSpec)

end Rows
end Go.Proofs.Ytkdkdejgajcneaa
