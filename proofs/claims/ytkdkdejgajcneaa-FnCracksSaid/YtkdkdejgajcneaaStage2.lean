/- A region that loads a box of one's own and stores into it at its end. -/
import Derived.Test.YtkdkdejgajcneaaStageW
import Derived.Test.YtkdkdejgajcneaaPutO
import Derived.Test.YtkdkdejgajcneaaBox
namespace Go.Proofs.Ytkdkdejgajcneaa
open Go Go.RowKit
structure TailL where
  l : List Value
  X : Array Obj
  d : Nat
instance : Nonempty TailL := ⟨⟨[], #[], 0⟩⟩
/-- The contents of the box at stage m. -/
def boxAt (W : World) (b : Nat) (T : TypeId) (L : Nat → List Value) (m : Nat) (w : World) : Prop := ∃ z : Tail, w = more (putB W b (L m) T) z.X z.d
def boxAny (W : World) (b : Nat) (T : TypeId) (w : World) : Prop := ∃ y : TailL, w = more (putB W b y.l T) y.X y.d
def late (m : Nat) : Bool := decide (0 < m)
theorem boxAt_stays {W : World} {b : Nat} {T : TypeId} {L : Nat → List Value} (m : Nat) (w w' : World) (h : boxAt W b T L m w) (hb : Below w.heap.size w w') : boxAt W b T L m w' := by
  obtain ⟨z, rfl⟩ := h
  obtain ⟨Y, n, rfl⟩ := Below.ext hb
  exact ⟨⟨z.X ++ Y, n⟩, more_more⟩
theorem region_box2 {P : Program} {Q : Exit → Act → World → Prop} {id : Nat} {a : Act} {W : World} {l : Array Oper} (hs : List (Nat × Bool)) (ts : List Nat) (last : Nat) (b : Nat) (T : TypeId) (L : Nat → List Value) (hm : P.follows .mixedOrders = true) (hB : stageW l hs ts last = true) (hb : W.heap[b]? = some (.cells ⟨L 0⟩ T (0, 0)))
    (h : headW P l (fun w => ∃ z : Tail, w = more (putB W b (L 0) T) z.X z.d) (fun w => ∃ y : TailL, w = more (putB W b y.l T) y.X y.d) (tailW P l (boxAt W b T L) Q late last ts 0) hs a) : (Code.region id l true).wp P Q a W :=
  region_stageW (S := Nat) (Cl := boxAt W b T L) hs ts last late 0 rfl hm hB (fun s w hf h => by
    have : s = 0 := by unfold late at hf; simpa using hf
    subst this; exact h) (fun s w h => by obtain ⟨z, h⟩ := h; exact ⟨⟨_, z.X, z.d⟩, h⟩) boxAt_stays ⟨⟨#[], W.drawn + 1⟩, by rw [putB_self hb]; exact (more_none W _).symm⟩ h
end Go.Proofs.Ytkdkdejgajcneaa
