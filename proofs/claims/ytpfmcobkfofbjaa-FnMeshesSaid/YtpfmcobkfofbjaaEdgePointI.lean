/- Contracts of EdgePoint. -/
import Derived.Test.YtpfmcobkfofbjaaEdgePoint
namespace Go.Proofs.Ytpfmcobkfofbjaa
open Go Go.RowKit
theorem frozen_below {w w' : World} {b o : Nat} {v : Value} (h : Below w.heap.size w w') (c : w.cell? ⟨b, o, none⟩ = some v) (f : w.frozen? ⟨b, o, none⟩ = false) : w'.frozen? ⟨b, o, none⟩ = false :=
  (World.frozen?_of_block (h.block b (World.block_lt_of_cell? _ _ c))).trans f
theorem onEdge_und {p : MeshD} {a b : Int} {on : List Int} (h : OnEdge p a b on) : OnEdge p (und (a, b)).1 (und (a, b)).2 on := by
  have h1 := h.a0
  have h2 := h.b0
  refine ⟨h.ok, ?_, ?_, h.on⟩ <;> simp only [und] <;> omega
theorem epV_und (p : MeshD) (a b : Int) (on : List Int) : epV p (und (a, b)).1 (und (a, b)).2 on = epV p a b on := by
  by_cases h : a ≤ b
  · have e : und (a, b) = (a, b) := by simp only [und, Prod.mk.injEq]; omega
    rw [e]
  · have e : und (a, b) = (b, a) := by simp only [und, Prod.mk.injEq]; omega
    rw [e]
    exact epV_swap p b a on
end Go.Proofs.Ytpfmcobkfofbjaa
