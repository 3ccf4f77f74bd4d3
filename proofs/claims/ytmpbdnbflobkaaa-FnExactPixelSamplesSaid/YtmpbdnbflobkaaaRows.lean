/-
  No cell of these rows narrows 'for every input' (looked for: loops, veiled, ifaces, maps, wideKeys, modest, calm, conditions, laid).
  DERIVED. THE GIVEN ROWS OF THIS SEAT. 4 by the template 'for every input the law returns true; each argument reads behind the call as it read before'; 0 by the template 'total and deterministic' (their statements: YtmpbdnbflobkaaaTotals.lean).
  GIVEN WITH THE SEED: the statements are not yours to turn. If you find one false, say at which input.
  Laid BY PROGRAM, IN A SANDBOX (cutbox-rows.mjs): the forced cells as the released guide's own fill.sh prints them over the translation 81937ca6faa29edd… (all of the seat's roots in one cut). By AI agents, Wed Nov 11 2026. No macro, syntax, notation, axiom, sorry.
-/
import Derived.Test.YtmpbdnbflobkaaaChecked
import GoSem.Claim
import GoSem.ClaimJoined
import GoSem.ClaimMapViews
import Derived.JoinedTies
import Derived.KernelRfl
namespace Go.Proofs.Ytmpbdnbflobkaaa
/- THE CELL 'sum', in the pinned program and in every row, IS THE sha256 OF THE DUMP (.gsa) THAT YtmpbdnbflobkaaaProg.lean LOADS. Nothing in Lean hashes anything: it is a label: what it is worth is what the hold of that sum in a sandbox is worth. -/
noncomputable def Try.pinned : Pinned := { name := "ytmpbdnbflobkaaa", sum := "81937ca6faa29eddd878e8de21812298bd1e405536b5ba74471902ca3e54b4f0", checked := Try.checked }
namespace Rows
def none {H : Type} : Left H := { results := [], args := [] }

/-- 'laws.FnExactIsValidSample': WHATEVER THE INPUT: true; the input reads as it did. -/
def fnExactIsValidSampleSpec : ChangeSpec := { name := "fnExactIsValidSample", fn := fun _ => fun
  | [d1, d2] => { results := [.lit (.bool true)], args := [d1, d2] }
  | _ => none }
def fnExactIsValidSampleRow : OpenClaim := { program := "ytmpbdnbflobkaaa", sum := "81937ca6faa29eddd878e8de21812298bd1e405536b5ba74471902ca3e54b4f0", func := "loop.example/g00809/laws.FnExactIsValidSample", spec := "fnExactIsValidSample", apart := false }
def FnExactIsValidSampleSaid : Prop := fnExactIsValidSampleRow.holds Try.pinned (OpenSpec.ofChange fnExactIsValidSampleSpec)

/-- ITS FALSE NEIGHBOUR: 'it returns false'. Refute it at one input. -/
def fnExactIsValidSampleWrong : ChangeSpec := { name := "fnExactIsValidSample", fn := fun _ => fun
  | [d1, d2] => { results := [.lit (.bool false)], args := [d1, d2] }
  | _ => none }
def FnExactIsValidSampleWrongFalsely : Prop := fnExactIsValidSampleRow.holds Try.pinned (OpenSpec.ofChange fnExactIsValidSampleWrong)

/-- 'laws.FnExactHashRange': WHATEVER THE INPUT: true; the input reads as it did. -/
def fnExactHashRangeSpec : ChangeSpec := { name := "fnExactHashRange", fn := fun _ => fun
  | [d1, d2] => { results := [.lit (.bool true)], args := [d1, d2] }
  | _ => none }
def fnExactHashRangeRow : OpenClaim := { program := "ytmpbdnbflobkaaa", sum := "81937ca6faa29eddd878e8de21812298bd1e405536b5ba74471902ca3e54b4f0", func := "loop.example/g00809/laws.FnExactHashRange", spec := "fnExactHashRange", apart := false }
def FnExactHashRangeSaid : Prop := fnExactHashRangeRow.holds Try.pinned (OpenSpec.ofChange fnExactHashRangeSpec)

/-- ITS FALSE NEIGHBOUR: 'it returns false'. Refute it at one input. -/
def fnExactHashRangeWrong : ChangeSpec := { name := "fnExactHashRange", fn := fun _ => fun
  | [d1, d2] => { results := [.lit (.bool false)], args := [d1, d2] }
  | _ => none }
def FnExactHashRangeWrongFalsely : Prop := fnExactHashRangeRow.holds Try.pinned (OpenSpec.ofChange fnExactHashRangeWrong)

/-- 'laws.FnSamples': WHATEVER THE INPUT: true; the input reads as it did. -/
def fnSamplesSpec : ChangeSpec := { name := "fnSamples", fn := fun _ => fun
  | [d] => { results := [.lit (.bool true)], args := [d] }
  | _ => none }
def fnSamplesRow : OpenClaim := { program := "ytmpbdnbflobkaaa", sum := "81937ca6faa29eddd878e8de21812298bd1e405536b5ba74471902ca3e54b4f0", func := "loop.example/g00809/laws.FnSamples", spec := "fnSamples", unfollowed := true, recurses := true, apart := false }
def FnSamplesSaid : Prop := fnSamplesRow.holds Try.pinned (OpenSpec.ofChange fnSamplesSpec)

/-- ITS FALSE NEIGHBOUR: 'it returns false'. Refute it at one input. -/
def fnSamplesWrong : ChangeSpec := { name := "fnSamples", fn := fun _ => fun
  | [d] => { results := [.lit (.bool false)], args := [d] }
  | _ => none }
def FnSamplesWrongFalsely : Prop := fnSamplesRow.holds Try.pinned (OpenSpec.ofChange fnSamplesWrong)

/-- 'laws.FnExactPixelSamples': WHATEVER THE INPUT: true; the input reads as it did. -/
def fnExactPixelSamplesSpec : ChangeSpec := { name := "fnExactPixelSamples", fn := fun _ => fun
  | [d1, d2, d3, d4] => { results := [.lit (.bool true)], args := [d1, d2, d3, d4] }
  | _ => none }
def fnExactPixelSamplesRow : OpenClaim := { program := "ytmpbdnbflobkaaa", sum := "81937ca6faa29eddd878e8de21812298bd1e405536b5ba74471902ca3e54b4f0", func := "loop.example/g00809/laws.FnExactPixelSamples", spec := "fnExactPixelSamples", unfollowed := true, recurses := true, apart := false }
def FnExactPixelSamplesSaid : Prop := fnExactPixelSamplesRow.holds Try.pinned (OpenSpec.ofChange fnExactPixelSamplesSpec)

/-- ITS FALSE NEIGHBOUR: 'it returns false'. Refute it at one input. -/
def fnExactPixelSamplesWrong : ChangeSpec := { name := "fnExactPixelSamples", fn := fun _ => fun
  | [d1, d2, d3, d4] => { results := [.lit (.bool false)], args := [d1, d2, d3, d4] }
  | _ => none }
def FnExactPixelSamplesWrongFalsely : Prop := fnExactPixelSamplesRow.holds Try.pinned (OpenSpec.ofChange fnExactPixelSamplesWrong)

/- THE SECOND FORM. 'bulk': how many values and letters a reading holds, each counted each time it is reached (what is shared counts as often as it is met; a slice's spare places count too). A statement '..UptoSaid' is the law's where the arguments, and the package variables that the reading takes, are together of bulk at most 1048576: NARROWER than '..Said'. Prove '..Said' where nothing that the law and all that it calls make is longer than what came in: it says more and counts as full. Else prove '..UptoSaid'. A law counts once. -/
mutual
def uptoBulk {H : Type} : DataW H → Nat
  | .lit (.string bytes) => bytes.length + 1
  | .lit _ => 1
  | .nil => 1
  | .ptr d => uptoBulk d + 1
  | .slice elems spare => uptoBulkAll elems + uptoBulkAll spare + 1
  | .agg parts => uptoBulkAll parts + 1
  | .iface _ d => uptoBulk d + 1
  | .map entries => uptoBulkEntries entries + 1
  | .held _ => 1
def uptoBulkAll {H : Type} : List (DataW H) → Nat
  | [] => 0
  | d :: r => uptoBulk d + uptoBulkAll r
def uptoBulkEntries {H : Type} : List (Lit × DataW H) → Nat
  | [] => 0
  | x :: r => uptoBulkEntry x + uptoBulkEntries r
def uptoBulkEntry {H : Type} : Lit × DataW H → Nat
  | (.string bytes, d) => bytes.length + uptoBulk d + 1
  | (_, d) => uptoBulk d + 1
 end
def uptoSmall : (H : Type) → List (DataW H) → Bool := fun _ ds => decide (uptoBulkAll ds ≤ 1048576)
def OpenSpec.upto (s : _root_.Go.ChangeSpec) : _root_.Go.OpenSpec := { _root_.Go.OpenSpec.ofChange s with cond := some uptoSmall }

/-- 'laws.FnExactIsValidSample', WHERE WHAT IT READS IS OF BULK AT MOST 1048576: true; the input reads as it did. -/
def fnExactIsValidSampleUptoRow : OpenClaim := { program := "ytmpbdnbflobkaaa", sum := "81937ca6faa29eddd878e8de21812298bd1e405536b5ba74471902ca3e54b4f0", func := "loop.example/g00809/laws.FnExactIsValidSample", spec := "fnExactIsValidSample", apart := false, narrowed := true }
def FnExactIsValidSampleUptoSaid : Prop := fnExactIsValidSampleUptoRow.holds Try.pinned (OpenSpec.upto fnExactIsValidSampleSpec)

/-- 'laws.FnExactHashRange', WHERE WHAT IT READS IS OF BULK AT MOST 1048576: true; the input reads as it did. -/
def fnExactHashRangeUptoRow : OpenClaim := { program := "ytmpbdnbflobkaaa", sum := "81937ca6faa29eddd878e8de21812298bd1e405536b5ba74471902ca3e54b4f0", func := "loop.example/g00809/laws.FnExactHashRange", spec := "fnExactHashRange", apart := false, narrowed := true }
def FnExactHashRangeUptoSaid : Prop := fnExactHashRangeUptoRow.holds Try.pinned (OpenSpec.upto fnExactHashRangeSpec)

/-- 'laws.FnSamples', WHERE WHAT IT READS IS OF BULK AT MOST 1048576: true; the input reads as it did. -/
def fnSamplesUptoRow : OpenClaim := { program := "ytmpbdnbflobkaaa", sum := "81937ca6faa29eddd878e8de21812298bd1e405536b5ba74471902ca3e54b4f0", func := "loop.example/g00809/laws.FnSamples", spec := "fnSamples", unfollowed := true, recurses := true, apart := false, narrowed := true }
def FnSamplesUptoSaid : Prop := fnSamplesUptoRow.holds Try.pinned (OpenSpec.upto fnSamplesSpec)

/-- 'laws.FnExactPixelSamples', WHERE WHAT IT READS IS OF BULK AT MOST 1048576: true; the input reads as it did. -/
def fnExactPixelSamplesUptoRow : OpenClaim := { program := "ytmpbdnbflobkaaa", sum := "81937ca6faa29eddd878e8de21812298bd1e405536b5ba74471902ca3e54b4f0", func := "loop.example/g00809/laws.FnExactPixelSamples", spec := "fnExactPixelSamples", unfollowed := true, recurses := true, apart := false, narrowed := true }
def FnExactPixelSamplesUptoSaid : Prop := fnExactPixelSamplesUptoRow.holds Try.pinned (OpenSpec.upto fnExactPixelSamplesSpec)

end Rows
end Go.Proofs.Ytmpbdnbflobkaaa
