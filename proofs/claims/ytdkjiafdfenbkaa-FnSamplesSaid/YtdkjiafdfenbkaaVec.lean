/- Contracts of vectors. -/
import Derived.Test.YtdkjiafdfenbkaaVecEach
namespace Go.Proofs.Ytdkjiafdfenbkaa
open Go.RowKit
/-- A number is an int64. -/
def In64 (n : Int) : Prop := -9223372036854775808 ≤ n ∧ n ≤ 9223372036854775807
theorem flip_same {P : Program} {f : FuncId} {args : Array Value} {w : World} {v : Value} (h : Calls P f args w fun e w' => e = .returned v ∧ w = w') : Calls P f args w fun e w' => e = .returned v ∧ w' = w :=
  h.mono fun _ _ ⟨a, b⟩ => ⟨a, b.symm⟩
end Go.Proofs.Ytdkjiafdfenbkaa
