/- Mark, with Row ahead of it. -/
import Derived.Test.YtpfmcobkfofbjaaBase
import Derived.Test.YtpfmcobkfofbjaaLt
import Derived.Laws.MakeOwn
import Derived.Laws.OwnMore
import Derived.LoopTactic
import Derived.Deep.LoopGhost
namespace Go.Proofs.Ytpfmcobkfofbjaa
open Go.RowKit
set_option linter.unusedVariables false
/-- The slice value v reads as n elements of s cells each: the cells xs. -/
def Row (w : World) (v : Value) (s n : Nat) (xs : List Value) : Prop :=
  xs.length = n * s ∧ ((n = 0 ∧ ∃ a cap, v = .slice a 0 cap) ∨ ∃ b o cap, v = .slice (some ⟨b, o, none⟩) n cap ∧ 0 < n ∧ b < w.heap.size ∧ ∀ j, j < n * s → w.cell? ⟨b, o + j, none⟩ = xs[j]?)
theorem Row.more {w : World} {v : Value} {s n : Nat} {xs : List Value} (h : Row w v s n xs) (X : Array Obj) (d : Nat) : Row (more w X d) v s n xs := by
  obtain ⟨h1, h2⟩ := h
  refine ⟨h1, h2.imp id ?_⟩
  rintro ⟨b, o, cap, rfl, hn, hb, hc⟩
  exact ⟨b, o, cap, rfl, hn, by simp; omega, fun j hj => by rw [cell?_more b (o + j) hb]; exact hc j hj⟩
theorem Row.alloc {w : World} {v : Value} {s n : Nat} {xs : List Value} (h : Row w v s n xs) (x : Obj) : Row (w.alloc x) v s n xs := by
  obtain ⟨h1, h2⟩ := h
  refine ⟨h1, h2.imp id ?_⟩
  rintro ⟨b, o, cap, rfl, hn, hb, hc⟩
  exact ⟨b, o, cap, rfl, hn, by simp; omega, fun j hj => by rw [World.cell?_alloc_past _ b (o + j) hb]; exact hc j hj⟩
theorem Row.below {w w' : World} {v : Value} {s n : Nat} {xs : List Value} (h : Row w v s n xs) (hb : Below w.heap.size w w') : Row w' v s n xs := by
  obtain ⟨X, d, rfl⟩ := Below.ext hb
  exact h.more X d
/-- A row of a block of one's own. -/
theorem Row.new (w : World) (xs : List Value) (s n cap : Nat) (e : TypeId) (h : xs.length = n * s) (hs : 0 < s) : Row (w.alloc (.cells ⟨xs⟩ e)) (.slice (some ⟨w.heap.size, 0, none⟩) n cap) s n xs := by
  refine ⟨h, ?_⟩
  by_cases hn : n = 0
  · subst hn; exact .inl ⟨rfl, _, _, rfl⟩
  · exact .inr ⟨_, _, _, rfl, by omega, by simp, fun j _ => by rw [World.cell?_alloc_at _ _ _ _ rfl]; simp⟩
theorem Row.len {w : World} {v : Value} {s n : Nat} {xs : List Value} (h : Row w v s n xs) : ∃ a cap, v = .slice a n cap := by
  rcases h.2 with ⟨rfl, a, cap, rfl⟩ | ⟨b, o, cap, rfl, _⟩
  · exact ⟨a, cap, rfl⟩
  · exact ⟨_, cap, rfl⟩
theorem cell_map {ns : List Int} {k : Nat} (h : k < ns.length) : (ns.map (Value.int .i64))[k]? = some (.int .i64 (ns.getD k 0)) := by
  rw [List.getElem?_map, List.getElem?_eq_getElem h, List.getD_eq_getElem?_getD, List.getElem?_eq_getElem h]; rfl
end Go.Proofs.Ytpfmcobkfofbjaa
namespace Go.Proofs.Ytpfmcobkfofbjaa
open Go.RowKit
set_option linter.unusedVariables false
/-- The marks from k on. -/
def marks (k n : Nat) : List Int := (List.range n).map fun j => ((k + j : Nat) : Int)
theorem marks_len (k n : Nat) : (marks k n).length = n := by simp [marks]
theorem marks_get (k n j : Nat) (h : j < n) : (marks k n).getD j 0 = ((k + j : Nat) : Int) := by
  rw [List.getD_eq_getElem?_getD, marks, List.getElem?_map, List.getElem?_range h]; rfl
/-- A slice whose cells are one's own to write: a block from lo on. -/
def Own (w : World) (lo : Nat) (v : Value) (s n : Nat) (xs : List Value) : Prop :=
  xs.length = n * s ∧ ((n = 0 ∧ ∃ a cap, v = .slice a 0 cap) ∨ ∃ g cap arr e, v = .slice (some ⟨g, 0, none⟩) n cap ∧ 0 < n ∧ lo ≤ g ∧ w.heap[g]? = some (.cells ⟨arr⟩ e (0, 0)) ∧ n * s ≤ arr.length ∧ arr.take (n * s) = xs)
theorem Own.row {w : World} {lo : Nat} {v : Value} {s n : Nat} {xs : List Value} (h : Own w lo v s n xs) : Row w v s n xs := by
  obtain ⟨h1, h2⟩ := h
  refine ⟨h1, h2.imp id ?_⟩
  rintro ⟨g, cap, arr, e, rfl, hn, hlo, hg, hl, rfl⟩
  refine ⟨g, 0, cap, rfl, hn, (Array.getElem?_eq_some_iff.1 hg).1, fun j hj => ?_⟩
  rw [cell_of_row w g (0 + j) ⟨arr⟩ e (0, 0) hg, List.getElem?_take, if_pos hj]
  simp
theorem Own.more {w : World} {lo : Nat} {v : Value} {s n : Nat} {xs : List Value} (h : Own w lo v s n xs) (X : Array Obj) (d : Nat) : Own (more w X d) lo v s n xs := by
  obtain ⟨h1, h2⟩ := h
  refine ⟨h1, h2.imp id ?_⟩
  rintro ⟨g, cap, arr, e, rfl, hn, hlo, hg, hl, hx⟩
  exact ⟨g, cap, arr, e, rfl, hn, hlo, by rw [heap_more g (Array.getElem?_eq_some_iff.1 hg).1]; exact hg, hl, hx⟩
theorem Own.below {w w' : World} {lo : Nat} {v : Value} {s n : Nat} {xs : List Value} (h : Own w lo v s n xs) (hb : Below w.heap.size w w') : Own w' lo v s n xs := by
  obtain ⟨X, d, rfl⟩ := Below.ext hb
  exact h.more X d
/-- Nothing but the blocks from lo on has changed (and no block is gone). -/
theorem own_of_ownsRow {w : World} {lo : Nat} {e : TypeId} {s : Nat} {v : Value} {n : Nat} {xs : List Value} (h : w.ownsRow lo e s v n xs) (hs : 0 < s) : Own w lo v s n xs := by
  obtain ⟨h1, h2⟩ := h
  refine ⟨h1, ?_⟩
  rcases h2 with ⟨rfl, rfl⟩ | ⟨g, cap, cur, rfl, hb, hg, hnc, hcm, hcs, ht⟩
  · exact .inl ⟨rfl, _, _, rfl⟩
  · by_cases hn : n = 0
    · subst hn; exact .inl ⟨rfl, _, _, rfl⟩
    · refine .inr ⟨g, cap, cur.toList, e, rfl, by omega, hb, hg, ?_, ht⟩
      have : cur.toList.length = cap * s := by simpa using hcs
      rw [this]; exact Nat.mul_le_mul_right s hnc
/-- A world with one block's cells written anew. -/
def putB (w : World) (g : Nat) (arr : List Value) (e : TypeId) : World := { w with heap := w.heap.setIfInBounds g (.cells ⟨arr⟩ e (0, 0)) }
section
variable {w : World} {g : Nat} {arr : List Value} {e : TypeId}
@[simp, go_sem] theorem size_putB : (putB w g arr e).heap.size = w.heap.size := by simp [putB]
theorem heap_putB (h : g < w.heap.size) : (putB w g arr e).heap[g]? = some (.cells ⟨arr⟩ e (0, 0)) := by simp [putB, h]
theorem heap_putB_other (n : Nat) (h : n ≠ g) : (putB w g arr e).heap[n]? = w.heap[n]? := by
  simp only [putB]
  rw [Array.getElem?_setIfInBounds_ne (Ne.symm h)]
@[go_sem] theorem cell?_putB (j : Nat) (h : g < w.heap.size) : (putB w g arr e).cell? ⟨g, j, none⟩ = arr[j]? := by
  rw [cell_of_row _ g j ⟨arr⟩ e (0, 0) (heap_putB h)]; simp
@[go_sem] theorem frozen?_putB (j : Nat) (h : g < w.heap.size) : (putB w g arr e).frozen? ⟨g, j, none⟩ = false :=
  frozen_of_row _ g j ⟨arr⟩ e (heap_putB h)
@[go_sem] theorem setCell_putB (j : Nat) (u : Value) (h : g < w.heap.size) : (putB w g arr e).setCell ⟨g, j, none⟩ u = putB w g (arr.set j u) e := by
  simp only [World.setCell, putB]
  congr 1
  apply Array.ext_getElem?
  intro k
  rw [Array.getElem?_modify, Array.getElem?_setIfInBounds, Array.getElem?_setIfInBounds]
  by_cases hk : g = k
  · subst hk; simp [h]
  · simp [hk]
theorem putB_self (h : w.heap[g]? = some (.cells ⟨arr⟩ e (0, 0))) : putB w g arr e = w := by
  have hg := (Array.getElem?_eq_some_iff.1 h).1
  have : w.heap.setIfInBounds g (.cells ⟨arr⟩ e (0, 0)) = w.heap := by
    apply Array.ext_getElem?
    intro k
    rw [Array.getElem?_setIfInBounds]
    split
    · subst_vars; first | exact h.symm | rw [if_pos hg, h]
    · rfl
  simp only [putB, this]
theorem Below.putB {lo : Nat} (h : lo ≤ g) : Below lo w (putB w g arr e) :=
  ⟨rfl, rfl, rfl, by simp, fun k hk => heap_putB_other k (by omega)⟩
end
/-- The first m cells bear the marks from k0 on. -/
def Marked (arr : List Value) (k0 m : Nat) : Prop := ∀ j, j < m → arr[j]? = some (.int .i64 ((k0 + j : Nat) : Int))
theorem Marked.set {arr : List Value} {k0 m : Nat} (h : Marked arr k0 m) (hm : m < arr.length) : Marked (arr.set m (.int .i64 ((k0 + m : Nat) : Int))) k0 (m + 1) := by
  intro j hj
  rw [List.getElem?_set]
  split
  · subst_vars; first | rfl | rw [if_pos hm]
  · exact h j (by omega)
theorem Marked.take {arr : List Value} {k0 m : Nat} (h : Marked arr k0 m) (hm : m ≤ arr.length) : arr.take m = (marks k0 m).map (.int .i64) := by
  apply List.ext_getElem?
  intro j
  by_cases hj : j < m
  · rw [List.getElem?_take, if_pos hj, h j hj, cell_map (by rw [marks_len]; exact hj), marks_get _ _ _ hj]
  · rw [List.getElem?_eq_none (by rw [List.length_take]; omega), List.getElem?_eq_none (by simp [marks]; omega)]
end Go.Proofs.Ytpfmcobkfofbjaa
