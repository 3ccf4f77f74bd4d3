/- Contracts of marking a mesh. -/
import Derived.Test.YtpfmcobkfofbjaaMesh2
namespace Go.Proofs.Ytpfmcobkfofbjaa
open Go Go.RowKit
theorem chg_putB {w : World} {g : Nat} {arr arr' : List Value} {e : TypeId} {X : Array Obj} {d : Nat} : Chg g (g + 1) (putB w g arr e) (more (putB w g arr' e) X d) := by
  refine ⟨rfl, rfl, rfl, by simp, fun k hk ho => ?_⟩
  have hk' : k < w.heap.size := by simpa using hk
  rw [heap_more k (by simpa using hk'), heap_putB_other k (by omega), heap_putB_other k (by omega)]
/-- A count comes back; the blocks from lo on and before hi alone have changed. -/
def Marks (lo hi B : Nat) (w : World) (e : Ending) (w' : World) : Prop := ∃ m : Nat, e = .returned (.int .i64 (m : Int)) ∧ m ≤ B ∧ Chg lo hi w w'
end Go.Proofs.Ytpfmcobkfofbjaa
