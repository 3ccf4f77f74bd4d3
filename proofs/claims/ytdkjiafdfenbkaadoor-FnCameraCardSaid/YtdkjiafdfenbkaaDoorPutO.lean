/- A block written anew, and the others. -/
import Derived.Test.YtdkjiafdfenbkaaDoorMark
namespace Go.Proofs.YtdkjiafdfenbkaaDoor
open Go Go.RowKit
section
variable {w : World} {g : Nat} {arr : List Value} {e : TypeId}
@[go_sem] theorem cell?_putB_other (n j : Nat) (h : n ≠ g) : (putB w g arr e).cell? ⟨n, j, none⟩ = w.cell? ⟨n, j, none⟩ := World.cell?_of_block (heap_putB_other n h)
@[go_sem] theorem frozen?_putB_other (n j : Nat) (h : n ≠ g) : (putB w g arr e).frozen? ⟨n, j, none⟩ = w.frozen? ⟨n, j, none⟩ := World.frozen?_of_block (heap_putB_other n h)
@[go_sem] theorem setCell_putB_other (n j : Nat) (u : Value) (h : n ≠ g) : (putB w g arr e).setCell ⟨n, j, none⟩ u = putB (w.setCell ⟨n, j, none⟩ u) g arr e := by
  simp only [World.setCell, putB]
  congr 1
  apply Array.ext_getElem?
  intro k
  rw [Array.getElem?_modify, Array.getElem?_setIfInBounds, Array.getElem?_setIfInBounds, Array.getElem?_modify]
  by_cases hk : n = k
  · subst hk; simp [Ne.symm h]
  · simp [hk]
end
end Go.Proofs.YtdkjiafdfenbkaaDoor
