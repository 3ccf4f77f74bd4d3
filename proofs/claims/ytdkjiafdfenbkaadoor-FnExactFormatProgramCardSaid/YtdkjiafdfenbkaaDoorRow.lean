/- Slices that are read: a row of cells. -/
import Derived.Test.YtdkjiafdfenbkaaDoorBase
import Derived.Test.YtdkjiafdfenbkaaDoorLt
import Derived.Laws.MakeOwn
import Derived.Laws.OwnMore
import Derived.LoopTactic
import Derived.Deep.LoopGhost
namespace Go.Proofs.YtdkjiafdfenbkaaDoor
open Go.RowKit
set_option linter.unusedVariables false
/-- The slice value v reads as n elements of s cells each: the cells xs. -/
def Row (w : World) (v : Value) (s n : Nat) (xs : List Value) : Prop :=
  xs.length = n * s ∧ ((n = 0 ∧ ∃ a cap, v = .slice a 0 cap) ∨ ∃ b o cap, v = .slice (some ⟨b, o, none⟩) n cap ∧ 0 < n ∧ b < w.heap.size ∧ ∀ j, j < n * s → w.cell? ⟨b, o + j, none⟩ = xs[j]?)
theorem Row.more {w : World} {v : Value} {s n : Nat} {xs : List Value} (h : Row w v s n xs) (X : Array Obj) (d : Nat) : Row (more w X d) v s n xs := by
  obtain ⟨h1, h2⟩ := h
  refine ⟨h1, h2.imp id ?_⟩
  rintro ⟨b, o, cap, rfl, hn, hb, hc⟩
  exact ⟨b, o, cap, rfl, hn, by simp; omega, fun j hj => by rw [cell?_more b (o + j) hb]; exact hc j hj⟩
theorem Row.alloc {w : World} {v : Value} {s n : Nat} {xs : List Value} (h : Row w v s n xs) (x : Obj) : Row (w.alloc x) v s n xs := by
  obtain ⟨h1, h2⟩ := h
  refine ⟨h1, h2.imp id ?_⟩
  rintro ⟨b, o, cap, rfl, hn, hb, hc⟩
  exact ⟨b, o, cap, rfl, hn, by simp; omega, fun j hj => by rw [World.cell?_alloc_past _ b (o + j) hb]; exact hc j hj⟩
theorem Row.below {w w' : World} {v : Value} {s n : Nat} {xs : List Value} (h : Row w v s n xs) (hb : Below w.heap.size w w') : Row w' v s n xs := by
  obtain ⟨X, d, rfl⟩ := Below.ext hb
  exact h.more X d
/-- A row of a block of one's own. -/
theorem Row.new (w : World) (xs : List Value) (s n cap : Nat) (e : TypeId) (h : xs.length = n * s) (hs : 0 < s) : Row (w.alloc (.cells ⟨xs⟩ e)) (.slice (some ⟨w.heap.size, 0, none⟩) n cap) s n xs := by
  refine ⟨h, ?_⟩
  by_cases hn : n = 0
  · subst hn; exact .inl ⟨rfl, _, _, rfl⟩
  · exact .inr ⟨_, _, _, rfl, by omega, by simp, fun j _ => by rw [World.cell?_alloc_at _ _ _ _ rfl]; simp⟩
theorem Row.len {w : World} {v : Value} {s n : Nat} {xs : List Value} (h : Row w v s n xs) : ∃ a cap, v = .slice a n cap := by
  rcases h.2 with ⟨rfl, a, cap, rfl⟩ | ⟨b, o, cap, rfl, _⟩
  · exact ⟨a, cap, rfl⟩
  · exact ⟨_, cap, rfl⟩
theorem cell_map {ns : List Int} {k : Nat} (h : k < ns.length) : (ns.map (Value.int .i64))[k]? = some (.int .i64 (ns.getD k 0)) := by
  rw [List.getElem?_map, List.getElem?_eq_getElem h, List.getD_eq_getElem?_getD, List.getElem?_eq_getElem h]; rfl
end Go.Proofs.YtdkjiafdfenbkaaDoor
