/-
  No cell of these rows narrows 'for every input' (looked for: loops, veiled, ifaces, maps, wideKeys, modest, calm, conditions, laid).
  DERIVED. THE GIVEN ROWS OF THIS SEAT. 6 by the template 'for every input the law returns true; each argument reads behind the call as it read before'; 0 by the template 'total and deterministic' (their statements: YtaonobdoelnpbaaTotals.lean).
  GIVEN WITH THE SEED: the statements are not yours to turn. If you find one false, say at which input.
  Laid BY PROGRAM, IN A SANDBOX (cutbox-rows.mjs): the forced cells as the released guide's own fill.sh prints them over the translation e2e15cbf4b7464b3… (all of the seat's roots in one cut). By AI agents, Wed Nov 11 2026. No macro, syntax, notation, axiom, sorry.
-/
import Derived.Test.YtaonobdoelnpbaaChecked
import GoSem.Claim
import GoSem.ClaimJoined
import GoSem.ClaimMapViews
import Derived.JoinedTies
import Derived.KernelRfl
namespace Go.Proofs.Ytaonobdoelnpbaa
/- THE CELL 'sum', in the pinned program and in every row, IS THE sha256 OF THE DUMP (.gsa) THAT YtaonobdoelnpbaaProg.lean LOADS. Nothing in Lean hashes anything: it is a label: what it is worth is what the hold of that sum in a sandbox is worth. -/
noncomputable def Try.pinned : Pinned := { name := "ytaonobdoelnpbaa", sum := "e2e15cbf4b7464b39893a479830d01ea7610a3ba272e177671554343e0243291", checked := Try.checked }
namespace Rows
def none {H : Type} : Left H := { results := [], args := [] }

/-- 'laws.FnExactIsVariable': WHATEVER THE INPUT: true; the input reads as it did. -/
def fnExactIsVariableSpec : ChangeSpec := { name := "fnExactIsVariable", fn := fun _ => fun
  | [d] => { results := [.lit (.bool true)], args := [d] }
  | _ => none }
def fnExactIsVariableRow : OpenClaim := { program := "ytaonobdoelnpbaa", sum := "e2e15cbf4b7464b39893a479830d01ea7610a3ba272e177671554343e0243291", func := "loop.example/g00809/laws.FnExactIsVariable", spec := "fnExactIsVariable", apart := false }
def FnExactIsVariableSaid : Prop := fnExactIsVariableRow.holds Try.pinned (OpenSpec.ofChange fnExactIsVariableSpec)

/-- ITS FALSE NEIGHBOUR: 'it returns false'. Refute it at one input. -/
def fnExactIsVariableWrong : ChangeSpec := { name := "fnExactIsVariable", fn := fun _ => fun
  | [d] => { results := [.lit (.bool false)], args := [d] }
  | _ => none }
def FnExactIsVariableWrongFalsely : Prop := fnExactIsVariableRow.holds Try.pinned (OpenSpec.ofChange fnExactIsVariableWrong)

/-- 'laws.FnExactCheckText': WHATEVER THE INPUT: true; the input reads as it did. -/
def fnExactCheckTextSpec : ChangeSpec := { name := "fnExactCheckText", fn := fun _ => fun
  | [d] => { results := [.lit (.bool true)], args := [d] }
  | _ => none }
def fnExactCheckTextRow : OpenClaim := { program := "ytaonobdoelnpbaa", sum := "e2e15cbf4b7464b39893a479830d01ea7610a3ba272e177671554343e0243291", func := "loop.example/g00809/laws.FnExactCheckText", spec := "fnExactCheckText", apart := false }
def FnExactCheckTextSaid : Prop := fnExactCheckTextRow.holds Try.pinned (OpenSpec.ofChange fnExactCheckTextSpec)

/-- ITS FALSE NEIGHBOUR: 'it returns false'. Refute it at one input. -/
def fnExactCheckTextWrong : ChangeSpec := { name := "fnExactCheckText", fn := fun _ => fun
  | [d] => { results := [.lit (.bool false)], args := [d] }
  | _ => none }
def FnExactCheckTextWrongFalsely : Prop := fnExactCheckTextRow.holds Try.pinned (OpenSpec.ofChange fnExactCheckTextWrong)

/-- 'laws.FnExactIsValidCamera': WHATEVER THE INPUT: true; the input reads as it did. -/
def fnExactIsValidCameraSpec : ChangeSpec := { name := "fnExactIsValidCamera", fn := fun _ => fun
  | [d] => { results := [.lit (.bool true)], args := [d] }
  | _ => none }
def fnExactIsValidCameraRow : OpenClaim := { program := "ytaonobdoelnpbaa", sum := "e2e15cbf4b7464b39893a479830d01ea7610a3ba272e177671554343e0243291", func := "loop.example/g00809/laws.FnExactIsValidCamera", spec := "fnExactIsValidCamera", apart := false }
def FnExactIsValidCameraSaid : Prop := fnExactIsValidCameraRow.holds Try.pinned (OpenSpec.ofChange fnExactIsValidCameraSpec)

/-- ITS FALSE NEIGHBOUR: 'it returns false'. Refute it at one input. -/
def fnExactIsValidCameraWrong : ChangeSpec := { name := "fnExactIsValidCamera", fn := fun _ => fun
  | [d] => { results := [.lit (.bool false)], args := [d] }
  | _ => none }
def FnExactIsValidCameraWrongFalsely : Prop := fnExactIsValidCameraRow.holds Try.pinned (OpenSpec.ofChange fnExactIsValidCameraWrong)

/-- 'laws.FnExactSameTriangle': WHATEVER THE INPUT: true; the input reads as it did. -/
def fnExactSameTriangleSpec : ChangeSpec := { name := "fnExactSameTriangle", fn := fun _ => fun
  | [d1, d2] => { results := [.lit (.bool true)], args := [d1, d2] }
  | _ => none }
def fnExactSameTriangleRow : OpenClaim := { program := "ytaonobdoelnpbaa", sum := "e2e15cbf4b7464b39893a479830d01ea7610a3ba272e177671554343e0243291", func := "loop.example/g00809/laws.FnExactSameTriangle", spec := "fnExactSameTriangle", apart := false }
def FnExactSameTriangleSaid : Prop := fnExactSameTriangleRow.holds Try.pinned (OpenSpec.ofChange fnExactSameTriangleSpec)

/-- ITS FALSE NEIGHBOUR: 'it returns false'. Refute it at one input. -/
def fnExactSameTriangleWrong : ChangeSpec := { name := "fnExactSameTriangle", fn := fun _ => fun
  | [d1, d2] => { results := [.lit (.bool false)], args := [d1, d2] }
  | _ => none }
def FnExactSameTriangleWrongFalsely : Prop := fnExactSameTriangleRow.holds Try.pinned (OpenSpec.ofChange fnExactSameTriangleWrong)

/-- 'laws.FnExactArity': WHATEVER THE INPUT: true; the input reads as it did. -/
def fnExactAritySpec : ChangeSpec := { name := "fnExactArity", fn := fun _ => fun
  | [d] => { results := [.lit (.bool true)], args := [d] }
  | _ => none }
def fnExactArityRow : OpenClaim := { program := "ytaonobdoelnpbaa", sum := "e2e15cbf4b7464b39893a479830d01ea7610a3ba272e177671554343e0243291", func := "loop.example/g00809/laws.FnExactArity", spec := "fnExactArity", apart := false }
def FnExactAritySaid : Prop := fnExactArityRow.holds Try.pinned (OpenSpec.ofChange fnExactAritySpec)

/-- ITS FALSE NEIGHBOUR: 'it returns false'. Refute it at one input. -/
def fnExactArityWrong : ChangeSpec := { name := "fnExactArity", fn := fun _ => fun
  | [d] => { results := [.lit (.bool false)], args := [d] }
  | _ => none }
def FnExactArityWrongFalsely : Prop := fnExactArityRow.holds Try.pinned (OpenSpec.ofChange fnExactArityWrong)

/-- 'laws.FnExactPixelAt': WHATEVER THE INPUT: true; the input reads as it did. -/
def fnExactPixelAtSpec : ChangeSpec := { name := "fnExactPixelAt", fn := fun _ => fun
  | [d1, d2, d3] => { results := [.lit (.bool true)], args := [d1, d2, d3] }
  | _ => none }
def fnExactPixelAtRow : OpenClaim := { program := "ytaonobdoelnpbaa", sum := "e2e15cbf4b7464b39893a479830d01ea7610a3ba272e177671554343e0243291", func := "loop.example/g00809/laws.FnExactPixelAt", spec := "fnExactPixelAt", apart := false }
def FnExactPixelAtSaid : Prop := fnExactPixelAtRow.holds Try.pinned (OpenSpec.ofChange fnExactPixelAtSpec)

/-- ITS FALSE NEIGHBOUR: 'it returns false'. Refute it at one input. -/
def fnExactPixelAtWrong : ChangeSpec := { name := "fnExactPixelAt", fn := fun _ => fun
  | [d1, d2, d3] => { results := [.lit (.bool false)], args := [d1, d2, d3] }
  | _ => none }
def FnExactPixelAtWrongFalsely : Prop := fnExactPixelAtRow.holds Try.pinned (OpenSpec.ofChange fnExactPixelAtWrong)

/- THE SECOND FORM. 'bulk': how many values and letters a reading holds, each counted each time it is reached (what is shared counts as often as it is met; a slice's spare places count too). A statement '..UptoSaid' is the law's where the arguments, and the package variables that the reading takes, are together of bulk at most 1048576: NARROWER than '..Said'. Prove '..Said' where nothing that the law and all that it calls make is longer than what came in: it says more and counts as full. Else prove '..UptoSaid'. A law counts once. -/
mutual
def uptoBulk {H : Type} : DataW H → Nat
  | .lit (.string bytes) => bytes.length + 1
  | .lit _ => 1
  | .nil => 1
  | .ptr d => uptoBulk d + 1
  | .slice elems spare => uptoBulkAll elems + uptoBulkAll spare + 1
  | .agg parts => uptoBulkAll parts + 1
  | .iface _ d => uptoBulk d + 1
  | .map entries => uptoBulkEntries entries + 1
  | .held _ => 1
def uptoBulkAll {H : Type} : List (DataW H) → Nat
  | [] => 0
  | d :: r => uptoBulk d + uptoBulkAll r
def uptoBulkEntries {H : Type} : List (Lit × DataW H) → Nat
  | [] => 0
  | x :: r => uptoBulkEntry x + uptoBulkEntries r
def uptoBulkEntry {H : Type} : Lit × DataW H → Nat
  | (.string bytes, d) => bytes.length + uptoBulk d + 1
  | (_, d) => uptoBulk d + 1
 end
def uptoSmall : (H : Type) → List (DataW H) → Bool := fun _ ds => decide (uptoBulkAll ds ≤ 1048576)
def OpenSpec.upto (s : _root_.Go.ChangeSpec) : _root_.Go.OpenSpec := { _root_.Go.OpenSpec.ofChange s with cond := some uptoSmall }

/-- 'laws.FnExactIsVariable', WHERE WHAT IT READS IS OF BULK AT MOST 1048576: true; the input reads as it did. -/
def fnExactIsVariableUptoRow : OpenClaim := { program := "ytaonobdoelnpbaa", sum := "e2e15cbf4b7464b39893a479830d01ea7610a3ba272e177671554343e0243291", func := "loop.example/g00809/laws.FnExactIsVariable", spec := "fnExactIsVariable", apart := false, narrowed := true }
def FnExactIsVariableUptoSaid : Prop := fnExactIsVariableUptoRow.holds Try.pinned (OpenSpec.upto fnExactIsVariableSpec)

/-- 'laws.FnExactCheckText', WHERE WHAT IT READS IS OF BULK AT MOST 1048576: true; the input reads as it did. -/
def fnExactCheckTextUptoRow : OpenClaim := { program := "ytaonobdoelnpbaa", sum := "e2e15cbf4b7464b39893a479830d01ea7610a3ba272e177671554343e0243291", func := "loop.example/g00809/laws.FnExactCheckText", spec := "fnExactCheckText", apart := false, narrowed := true }
def FnExactCheckTextUptoSaid : Prop := fnExactCheckTextUptoRow.holds Try.pinned (OpenSpec.upto fnExactCheckTextSpec)

/-- 'laws.FnExactIsValidCamera', WHERE WHAT IT READS IS OF BULK AT MOST 1048576: true; the input reads as it did. -/
def fnExactIsValidCameraUptoRow : OpenClaim := { program := "ytaonobdoelnpbaa", sum := "e2e15cbf4b7464b39893a479830d01ea7610a3ba272e177671554343e0243291", func := "loop.example/g00809/laws.FnExactIsValidCamera", spec := "fnExactIsValidCamera", apart := false, narrowed := true }
def FnExactIsValidCameraUptoSaid : Prop := fnExactIsValidCameraUptoRow.holds Try.pinned (OpenSpec.upto fnExactIsValidCameraSpec)

/-- 'laws.FnExactSameTriangle', WHERE WHAT IT READS IS OF BULK AT MOST 1048576: true; the input reads as it did. -/
def fnExactSameTriangleUptoRow : OpenClaim := { program := "ytaonobdoelnpbaa", sum := "e2e15cbf4b7464b39893a479830d01ea7610a3ba272e177671554343e0243291", func := "loop.example/g00809/laws.FnExactSameTriangle", spec := "fnExactSameTriangle", apart := false, narrowed := true }
def FnExactSameTriangleUptoSaid : Prop := fnExactSameTriangleUptoRow.holds Try.pinned (OpenSpec.upto fnExactSameTriangleSpec)

/-- 'laws.FnExactArity', WHERE WHAT IT READS IS OF BULK AT MOST 1048576: true; the input reads as it did. -/
def fnExactArityUptoRow : OpenClaim := { program := "ytaonobdoelnpbaa", sum := "e2e15cbf4b7464b39893a479830d01ea7610a3ba272e177671554343e0243291", func := "loop.example/g00809/laws.FnExactArity", spec := "fnExactArity", apart := false, narrowed := true }
def FnExactArityUptoSaid : Prop := fnExactArityUptoRow.holds Try.pinned (OpenSpec.upto fnExactAritySpec)

/-- 'laws.FnExactPixelAt', WHERE WHAT IT READS IS OF BULK AT MOST 1048576: true; the input reads as it did. -/
def fnExactPixelAtUptoRow : OpenClaim := { program := "ytaonobdoelnpbaa", sum := "e2e15cbf4b7464b39893a479830d01ea7610a3ba272e177671554343e0243291", func := "loop.example/g00809/laws.FnExactPixelAt", spec := "fnExactPixelAt", apart := false, narrowed := true }
def FnExactPixelAtUptoSaid : Prop := fnExactPixelAtUptoRow.holds Try.pinned (OpenSpec.upto fnExactPixelAtSpec)

end Rows
end Go.Proofs.Ytaonobdoelnpbaa
