/-
  No cell of these rows narrows 'for every input' (looked for: loops, veiled, ifaces, maps, wideKeys, modest, calm, conditions, laid).
  DERIVED. THE GIVEN ROWS OF THIS SEAT. 8 by the template 'for every input the law returns true; each argument reads behind the call as it read before'; 0 by the template 'total and deterministic' (their statements: YtgennnoplmhckaaTotals.lean).
  GIVEN WITH THE SEED: the statements are not yours to turn. If you find one false, say at which input.
  Laid BY PROGRAM, IN A SANDBOX (cutbox-rows.mjs): the forced cells as the released guide's own fill.sh prints them over the translation c4077ed3517c9f90… (all of the seat's roots in one cut). By AI agents, Wed Nov 11 2026. No macro, syntax, notation, axiom, sorry.
-/
import Derived.Test.YtgennnoplmhckaaChecked
import GoSem.Claim
import GoSem.ClaimJoined
import GoSem.ClaimMapViews
import Derived.JoinedTies
import Derived.KernelRfl
namespace Go.Proofs.Ytgennnoplmhckaa
/- THE CELL 'sum', in the pinned program and in every row, IS THE sha256 OF THE DUMP (.gsa) THAT YtgennnoplmhckaaProg.lean LOADS. Nothing in Lean hashes anything: it is a label: what it is worth is what the hold of that sum in a sandbox is worth. -/
noncomputable def Try.pinned : Pinned := { name := "ytgennnoplmhckaa", sum := "c4077ed3517c9f909e5aec25de5eddf21a8d8400491c82f22d07a9e12f50d80c", checked := Try.checked }
namespace Rows
def none {H : Type} : Left H := { results := [], args := [] }

/-- 'laws.FnExactTokenTexts': WHATEVER THE INPUT: true; the input reads as it did. -/
def fnExactTokenTextsSpec : ChangeSpec := { name := "fnExactTokenTexts", fn := fun _ => fun
  | [d] => { results := [.lit (.bool true)], args := [d] }
  | _ => none }
def fnExactTokenTextsRow : OpenClaim := { program := "ytgennnoplmhckaa", sum := "c4077ed3517c9f909e5aec25de5eddf21a8d8400491c82f22d07a9e12f50d80c", func := "loop.example/g00809/laws.FnExactTokenTexts", spec := "fnExactTokenTexts", apart := false }
def FnExactTokenTextsSaid : Prop := fnExactTokenTextsRow.holds Try.pinned (OpenSpec.ofChange fnExactTokenTextsSpec)

/-- ITS FALSE NEIGHBOUR: 'it returns false'. Refute it at one input. -/
def fnExactTokenTextsWrong : ChangeSpec := { name := "fnExactTokenTexts", fn := fun _ => fun
  | [d] => { results := [.lit (.bool false)], args := [d] }
  | _ => none }
def FnExactTokenTextsWrongFalsely : Prop := fnExactTokenTextsRow.holds Try.pinned (OpenSpec.ofChange fnExactTokenTextsWrong)

/-- 'laws.FnExactJoinTokens': WHATEVER THE INPUT: true; the input reads as it did. -/
def fnExactJoinTokensSpec : ChangeSpec := { name := "fnExactJoinTokens", fn := fun _ => fun
  | [d] => { results := [.lit (.bool true)], args := [d] }
  | _ => none }
def fnExactJoinTokensRow : OpenClaim := { program := "ytgennnoplmhckaa", sum := "c4077ed3517c9f909e5aec25de5eddf21a8d8400491c82f22d07a9e12f50d80c", func := "loop.example/g00809/laws.FnExactJoinTokens", spec := "fnExactJoinTokens", inPlace := ["internal/abi.NoEscape", "internal/bytealg.MakeNoZero"], apart := false }
def FnExactJoinTokensSaid : Prop := fnExactJoinTokensRow.holds Try.pinned (OpenSpec.ofChange fnExactJoinTokensSpec)

/-- ITS FALSE NEIGHBOUR: 'it returns false'. Refute it at one input. -/
def fnExactJoinTokensWrong : ChangeSpec := { name := "fnExactJoinTokens", fn := fun _ => fun
  | [d] => { results := [.lit (.bool false)], args := [d] }
  | _ => none }
def FnExactJoinTokensWrongFalsely : Prop := fnExactJoinTokensRow.holds Try.pinned (OpenSpec.ofChange fnExactJoinTokensWrong)

/-- 'laws.FnExactCountOp': WHATEVER THE INPUT: true; the input reads as it did. -/
def fnExactCountOpSpec : ChangeSpec := { name := "fnExactCountOp", fn := fun _ => fun
  | [d1, d2] => { results := [.lit (.bool true)], args := [d1, d2] }
  | _ => none }
def fnExactCountOpRow : OpenClaim := { program := "ytgennnoplmhckaa", sum := "c4077ed3517c9f909e5aec25de5eddf21a8d8400491c82f22d07a9e12f50d80c", func := "loop.example/g00809/laws.FnExactCountOp", spec := "fnExactCountOp", apart := false }
def FnExactCountOpSaid : Prop := fnExactCountOpRow.holds Try.pinned (OpenSpec.ofChange fnExactCountOpSpec)

/-- ITS FALSE NEIGHBOUR: 'it returns false'. Refute it at one input. -/
def fnExactCountOpWrong : ChangeSpec := { name := "fnExactCountOp", fn := fun _ => fun
  | [d1, d2] => { results := [.lit (.bool false)], args := [d1, d2] }
  | _ => none }
def FnExactCountOpWrongFalsely : Prop := fnExactCountOpRow.holds Try.pinned (OpenSpec.ofChange fnExactCountOpWrong)

/-- 'laws.FnExactSameProgram': WHATEVER THE INPUT: true; the input reads as it did. -/
def fnExactSameProgramSpec : ChangeSpec := { name := "fnExactSameProgram", fn := fun _ => fun
  | [d1, d2] => { results := [.lit (.bool true)], args := [d1, d2] }
  | _ => none }
def fnExactSameProgramRow : OpenClaim := { program := "ytgennnoplmhckaa", sum := "c4077ed3517c9f909e5aec25de5eddf21a8d8400491c82f22d07a9e12f50d80c", func := "loop.example/g00809/laws.FnExactSameProgram", spec := "fnExactSameProgram", unfollowed := true, recurses := true, apart := false }
def FnExactSameProgramSaid : Prop := fnExactSameProgramRow.holds Try.pinned (OpenSpec.ofChange fnExactSameProgramSpec)

/-- ITS FALSE NEIGHBOUR: 'it returns false'. Refute it at one input. -/
def fnExactSameProgramWrong : ChangeSpec := { name := "fnExactSameProgram", fn := fun _ => fun
  | [d1, d2] => { results := [.lit (.bool false)], args := [d1, d2] }
  | _ => none }
def FnExactSameProgramWrongFalsely : Prop := fnExactSameProgramRow.holds Try.pinned (OpenSpec.ofChange fnExactSameProgramWrong)

/-- 'laws.FnExactRoots': WHATEVER THE INPUT: true; the input reads as it did. -/
def fnExactRootsSpec : ChangeSpec := { name := "fnExactRoots", fn := fun _ => fun
  | [d] => { results := [.lit (.bool true)], args := [d] }
  | _ => none }
def fnExactRootsRow : OpenClaim := { program := "ytgennnoplmhckaa", sum := "c4077ed3517c9f909e5aec25de5eddf21a8d8400491c82f22d07a9e12f50d80c", func := "loop.example/g00809/laws.FnExactRoots", spec := "fnExactRoots", apart := false }
def FnExactRootsSaid : Prop := fnExactRootsRow.holds Try.pinned (OpenSpec.ofChange fnExactRootsSpec)

/-- ITS FALSE NEIGHBOUR: 'it returns false'. Refute it at one input. -/
def fnExactRootsWrong : ChangeSpec := { name := "fnExactRoots", fn := fun _ => fun
  | [d] => { results := [.lit (.bool false)], args := [d] }
  | _ => none }
def FnExactRootsWrongFalsely : Prop := fnExactRootsRow.holds Try.pinned (OpenSpec.ofChange fnExactRootsWrong)

/-- 'laws.FnExactIsValidProgram': WHATEVER THE INPUT: true; the input reads as it did. -/
def fnExactIsValidProgramSpec : ChangeSpec := { name := "fnExactIsValidProgram", fn := fun _ => fun
  | [d] => { results := [.lit (.bool true)], args := [d] }
  | _ => none }
def fnExactIsValidProgramRow : OpenClaim := { program := "ytgennnoplmhckaa", sum := "c4077ed3517c9f909e5aec25de5eddf21a8d8400491c82f22d07a9e12f50d80c", func := "loop.example/g00809/laws.FnExactIsValidProgram", spec := "fnExactIsValidProgram", unfollowed := true, recurses := true, apart := false }
def FnExactIsValidProgramSaid : Prop := fnExactIsValidProgramRow.holds Try.pinned (OpenSpec.ofChange fnExactIsValidProgramSpec)

/-- ITS FALSE NEIGHBOUR: 'it returns false'. Refute it at one input. -/
def fnExactIsValidProgramWrong : ChangeSpec := { name := "fnExactIsValidProgram", fn := fun _ => fun
  | [d] => { results := [.lit (.bool false)], args := [d] }
  | _ => none }
def FnExactIsValidProgramWrongFalsely : Prop := fnExactIsValidProgramRow.holds Try.pinned (OpenSpec.ofChange fnExactIsValidProgramWrong)

/-- 'laws.FnExactOwnerOf': WHATEVER THE INPUT: true; the input reads as it did. -/
def fnExactOwnerOfSpec : ChangeSpec := { name := "fnExactOwnerOf", fn := fun _ => fun
  | [d1, d2] => { results := [.lit (.bool true)], args := [d1, d2] }
  | _ => none }
def fnExactOwnerOfRow : OpenClaim := { program := "ytgennnoplmhckaa", sum := "c4077ed3517c9f909e5aec25de5eddf21a8d8400491c82f22d07a9e12f50d80c", func := "loop.example/g00809/laws.FnExactOwnerOf", spec := "fnExactOwnerOf", unfollowed := true, recurses := true, apart := false }
def FnExactOwnerOfSaid : Prop := fnExactOwnerOfRow.holds Try.pinned (OpenSpec.ofChange fnExactOwnerOfSpec)

/-- ITS FALSE NEIGHBOUR: 'it returns false'. Refute it at one input. -/
def fnExactOwnerOfWrong : ChangeSpec := { name := "fnExactOwnerOf", fn := fun _ => fun
  | [d1, d2] => { results := [.lit (.bool false)], args := [d1, d2] }
  | _ => none }
def FnExactOwnerOfWrongFalsely : Prop := fnExactOwnerOfRow.holds Try.pinned (OpenSpec.ofChange fnExactOwnerOfWrong)

/-- 'laws.FnExactCheck': WHATEVER THE INPUT: true; the input reads as it did. -/
def fnExactCheckSpec : ChangeSpec := { name := "fnExactCheck", fn := fun _ => fun
  | [d] => { results := [.lit (.bool true)], args := [d] }
  | _ => none }
def fnExactCheckRow : OpenClaim := { program := "ytgennnoplmhckaa", sum := "c4077ed3517c9f909e5aec25de5eddf21a8d8400491c82f22d07a9e12f50d80c", func := "loop.example/g00809/laws.FnExactCheck", spec := "fnExactCheck", unfollowed := true, recurses := true, apart := false }
def FnExactCheckSaid : Prop := fnExactCheckRow.holds Try.pinned (OpenSpec.ofChange fnExactCheckSpec)

/-- ITS FALSE NEIGHBOUR: 'it returns false'. Refute it at one input. -/
def fnExactCheckWrong : ChangeSpec := { name := "fnExactCheck", fn := fun _ => fun
  | [d] => { results := [.lit (.bool false)], args := [d] }
  | _ => none }
def FnExactCheckWrongFalsely : Prop := fnExactCheckRow.holds Try.pinned (OpenSpec.ofChange fnExactCheckWrong)

/- THE SECOND FORM. 'bulk': how many values and letters a reading holds, each counted each time it is reached (what is shared counts as often as it is met; a slice's spare places count too). A statement '..UptoSaid' is the law's where the arguments, and the package variables that the reading takes, are together of bulk at most 1048576: NARROWER than '..Said'. Prove '..Said' where nothing that the law and all that it calls make is longer than what came in: it says more and counts as full. Else prove '..UptoSaid'. A law counts once. -/
mutual
def uptoBulk {H : Type} : DataW H → Nat
  | .lit (.string bytes) => bytes.length + 1
  | .lit _ => 1
  | .nil => 1
  | .ptr d => uptoBulk d + 1
  | .slice elems spare => uptoBulkAll elems + uptoBulkAll spare + 1
  | .agg parts => uptoBulkAll parts + 1
  | .iface _ d => uptoBulk d + 1
  | .map entries => uptoBulkEntries entries + 1
  | .held _ => 1
def uptoBulkAll {H : Type} : List (DataW H) → Nat
  | [] => 0
  | d :: r => uptoBulk d + uptoBulkAll r
def uptoBulkEntries {H : Type} : List (Lit × DataW H) → Nat
  | [] => 0
  | x :: r => uptoBulkEntry x + uptoBulkEntries r
def uptoBulkEntry {H : Type} : Lit × DataW H → Nat
  | (.string bytes, d) => bytes.length + uptoBulk d + 1
  | (_, d) => uptoBulk d + 1
 end
def uptoSmall : (H : Type) → List (DataW H) → Bool := fun _ ds => decide (uptoBulkAll ds ≤ 1048576)
def OpenSpec.upto (s : _root_.Go.ChangeSpec) : _root_.Go.OpenSpec := { _root_.Go.OpenSpec.ofChange s with cond := some uptoSmall }

/-- 'laws.FnExactTokenTexts', WHERE WHAT IT READS IS OF BULK AT MOST 1048576: true; the input reads as it did. -/
def fnExactTokenTextsUptoRow : OpenClaim := { program := "ytgennnoplmhckaa", sum := "c4077ed3517c9f909e5aec25de5eddf21a8d8400491c82f22d07a9e12f50d80c", func := "loop.example/g00809/laws.FnExactTokenTexts", spec := "fnExactTokenTexts", apart := false, narrowed := true }
def FnExactTokenTextsUptoSaid : Prop := fnExactTokenTextsUptoRow.holds Try.pinned (OpenSpec.upto fnExactTokenTextsSpec)

/-- 'laws.FnExactJoinTokens', WHERE WHAT IT READS IS OF BULK AT MOST 1048576: true; the input reads as it did. -/
def fnExactJoinTokensUptoRow : OpenClaim := { program := "ytgennnoplmhckaa", sum := "c4077ed3517c9f909e5aec25de5eddf21a8d8400491c82f22d07a9e12f50d80c", func := "loop.example/g00809/laws.FnExactJoinTokens", spec := "fnExactJoinTokens", inPlace := ["internal/abi.NoEscape", "internal/bytealg.MakeNoZero"], apart := false, narrowed := true }
def FnExactJoinTokensUptoSaid : Prop := fnExactJoinTokensUptoRow.holds Try.pinned (OpenSpec.upto fnExactJoinTokensSpec)

/-- 'laws.FnExactCountOp', WHERE WHAT IT READS IS OF BULK AT MOST 1048576: true; the input reads as it did. -/
def fnExactCountOpUptoRow : OpenClaim := { program := "ytgennnoplmhckaa", sum := "c4077ed3517c9f909e5aec25de5eddf21a8d8400491c82f22d07a9e12f50d80c", func := "loop.example/g00809/laws.FnExactCountOp", spec := "fnExactCountOp", apart := false, narrowed := true }
def FnExactCountOpUptoSaid : Prop := fnExactCountOpUptoRow.holds Try.pinned (OpenSpec.upto fnExactCountOpSpec)

/-- 'laws.FnExactSameProgram', WHERE WHAT IT READS IS OF BULK AT MOST 1048576: true; the input reads as it did. -/
def fnExactSameProgramUptoRow : OpenClaim := { program := "ytgennnoplmhckaa", sum := "c4077ed3517c9f909e5aec25de5eddf21a8d8400491c82f22d07a9e12f50d80c", func := "loop.example/g00809/laws.FnExactSameProgram", spec := "fnExactSameProgram", unfollowed := true, recurses := true, apart := false, narrowed := true }
def FnExactSameProgramUptoSaid : Prop := fnExactSameProgramUptoRow.holds Try.pinned (OpenSpec.upto fnExactSameProgramSpec)

/-- 'laws.FnExactRoots', WHERE WHAT IT READS IS OF BULK AT MOST 1048576: true; the input reads as it did. -/
def fnExactRootsUptoRow : OpenClaim := { program := "ytgennnoplmhckaa", sum := "c4077ed3517c9f909e5aec25de5eddf21a8d8400491c82f22d07a9e12f50d80c", func := "loop.example/g00809/laws.FnExactRoots", spec := "fnExactRoots", apart := false, narrowed := true }
def FnExactRootsUptoSaid : Prop := fnExactRootsUptoRow.holds Try.pinned (OpenSpec.upto fnExactRootsSpec)

/-- 'laws.FnExactIsValidProgram', WHERE WHAT IT READS IS OF BULK AT MOST 1048576: true; the input reads as it did. -/
def fnExactIsValidProgramUptoRow : OpenClaim := { program := "ytgennnoplmhckaa", sum := "c4077ed3517c9f909e5aec25de5eddf21a8d8400491c82f22d07a9e12f50d80c", func := "loop.example/g00809/laws.FnExactIsValidProgram", spec := "fnExactIsValidProgram", unfollowed := true, recurses := true, apart := false, narrowed := true }
def FnExactIsValidProgramUptoSaid : Prop := fnExactIsValidProgramUptoRow.holds Try.pinned (OpenSpec.upto fnExactIsValidProgramSpec)

/-- 'laws.FnExactOwnerOf', WHERE WHAT IT READS IS OF BULK AT MOST 1048576: true; the input reads as it did. -/
def fnExactOwnerOfUptoRow : OpenClaim := { program := "ytgennnoplmhckaa", sum := "c4077ed3517c9f909e5aec25de5eddf21a8d8400491c82f22d07a9e12f50d80c", func := "loop.example/g00809/laws.FnExactOwnerOf", spec := "fnExactOwnerOf", unfollowed := true, recurses := true, apart := false, narrowed := true }
def FnExactOwnerOfUptoSaid : Prop := fnExactOwnerOfUptoRow.holds Try.pinned (OpenSpec.upto fnExactOwnerOfSpec)

/-- 'laws.FnExactCheck', WHERE WHAT IT READS IS OF BULK AT MOST 1048576: true; the input reads as it did. -/
def fnExactCheckUptoRow : OpenClaim := { program := "ytgennnoplmhckaa", sum := "c4077ed3517c9f909e5aec25de5eddf21a8d8400491c82f22d07a9e12f50d80c", func := "loop.example/g00809/laws.FnExactCheck", spec := "fnExactCheck", unfollowed := true, recurses := true, apart := false, narrowed := true }
def FnExactCheckUptoSaid : Prop := fnExactCheckUptoRow.holds Try.pinned (OpenSpec.upto fnExactCheckSpec)

end Rows
end Go.Proofs.Ytgennnoplmhckaa
