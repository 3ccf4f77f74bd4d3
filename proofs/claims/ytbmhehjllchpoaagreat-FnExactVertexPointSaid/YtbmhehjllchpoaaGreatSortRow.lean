/- Rows of edges that the library sorts. -/
import Derived.Test.YtbmhehjllchpoaaGreatCmpEdge
import Derived.Shelf.SlSortCmp.NoneTotal
namespace Go.Proofs.YtbmhehjllchpoaaGreat
open Go Go.RowKit Go.Sort
def encE (p : Int × Int) : List Value := [.int .i64 p.1, .int .i64 p.2]
theorem ltOf_cmpE : ltOf cmpE = ltE := by
  funext x y
  unfold ltOf
  exact cmpE_neg x y
theorem swo_cmpE : SWO (ltOf cmpE) := by
  rw [ltOf_cmpE]
  refine ⟨fun x => ltE_irr x, fun x y z h1 h2 => ltE_trans h1 h2, fun x y z h1 h2 => ?_⟩
  simp only [ltE, decide_eq_false_iff_not] at *; omega
theorem cut_cmpE (x y : Int × Int) (h1 : ltOf cmpE x y = false) (h2 : ltOf cmpE y x = false) : x = y := by
  rw [ltOf_cmpE] at h1 h2
  rcases ltE_not.1 h1 with e | e
  · exact e.symm
  · rw [h2] at e; cases e
theorem flat_edges (L : List (Int × Int)) : (flatK encE 2 L.toArray).toList = edgeVals L := by
  have hl : (edgeVals L).length = L.length * 2 := flat_len (fun _ _ => rfl)
  apply List.ext_getElem?
  intro t
  by_cases ht : t < L.length * 2
  · have h1 : (edgeVals L)[t / 2 * 2 + t % 2]? = (edgeAt L (t / 2))[t % 2]? := flat_get (s := 2) (n := L.length) (C := edgeAt L) (fun _ _ => rfl) (t / 2) (by omega) (t % 2) (Nat.mod_lt _ (by omega))
    rw [show t / 2 * 2 + t % 2 = t by omega] at h1
    rw [h1, Array.getElem?_toList]
    have h2 : (flatK encE 2 L.toArray)[t]? = some (flatK encE 2 L.toArray)[t]! := by
      rw [getElem!_pos _ t (by simpa using ht)]
      exact Array.getElem?_eq_getElem _
    rw [h2, get_flatK _ _ _ _ (by simpa using ht)]
    have h3 : t / 2 < L.length := by omega
    have h4 : L.toArray[t / 2]! = L.getD (t / 2) (0, 0) := by
      rw [getElem!_pos _ _ (by simpa using h3)]
      simp [List.getD_eq_getElem?_getD, List.getElem?_eq_getElem h3]
    rw [h4]
    rcases Nat.mod_two_eq_zero_or_one t with e | e <;> rw [e] <;> simp [edgeAt, encE]
  · rw [List.getElem?_eq_none (by simp; omega), List.getElem?_eq_none (by omega)]
theorem holds_flat {w : World} {g : Nat} {cur : Array Value} {e : TypeId} {F : Array Value} (hb : w.heap[g]? = some (.cells cur e (0, 0))) (ht : cur.toList.take F.size = F.toList) : Holds id w g 0 F := by
  intro j hj
  refine ⟨?_, by simp [World.frozen?, hb]⟩
  have h1 : (cur.toList.take F.size)[j]? = F.toList[j]? := by rw [ht]
  rw [List.getElem?_take_of_lt hj] at h1
  simp only [World.cell?, hb, Nat.zero_add]
  simp only [Option.isSome_none, Bool.false_eq_true, if_false]
  rw [← Array.getElem?_toList, h1, getElem!_pos F j hj]
  simp [hj]
theorem heap_flat {w : World} {g n : Nat} {os : Array Obj} {cur : Array Value} {e : TypeId} {fr : Nat × Nat} (F : Array Value) (hb : w.heap[g]? = some (.cells cur e fr)) :
    (grow (putRow id (Sort.ahead w n) g 0 F) os).heap[g]? = some (.cells (putCells id 0 F cur) e fr) := by
  have hg : g < w.heap.size := (Array.getElem?_eq_some_iff.1 hb).1
  rw [heap_grow_old _ _ (by simpa using hg)]
  simp [putRow, mapBlock, Sort.ahead, Array.getElem?_modify, hb, onCells]
theorem grownBy_flat {w : World} {g n : Nat} {os : Array Obj} (F : Array Value) : w.grownBy (grow (putRow id (Sort.ahead w n) g 0 F) os) (some g) := by
  refine ⟨rfl, rfl, rfl, by simp, fun k hk hne => ?_⟩
  rw [heap_grow_old _ _ (by simpa using hk)]
  have : g ≠ k := fun e => hne (by rw [e])
  simp [putRow, mapBlock, Sort.ahead, Array.getElem?_modify, this]
theorem take_flat (cur F : Array Value) (h : F.size ≤ cur.size) : (putCells id 0 F cur).toList.take F.size = F.toList := by
  apply List.ext_getElem?
  intro j
  by_cases hj : j < F.size
  · rw [List.getElem?_take_of_lt hj, Array.getElem?_toList]
    simp [putCells, hj, show j < cur.size by omega]
  · rw [List.getElem?_take_eq_none (by omega), List.getElem?_eq_none (by simp; omega)]
/-- Behind the sort the same slice owns the sorted row. -/
theorem owns_flat {w : World} {base g cap n m : Nat} {e : TypeId} {os : Array Obj} {cur : Array Value} {L : List (Int × Int)} (hl : L.length = m) (hbase : base ≤ g) (hb : w.heap[g]? = some (.cells cur e (0, 0)))
    (h1 : m ≤ cap) (h2 : cap ≤ maxLen) (h3 : cur.size = cap * 2) :
    (grow (putRow id (Sort.ahead w n) g 0 (flatK encE 2 L.toArray)) os).ownsRow base e 2 (.slice (some ⟨g, 0, none⟩) m cap) m (edgeVals L) := by
  have hs : (flatK encE 2 L.toArray).size = m * 2 := by simp [hl]
  refine ⟨by rw [← flat_edges]; simp [hl], .inr ⟨g, cap, _, rfl, hbase, heap_flat _ hb, h1, h2, by simp [putCells, h3], ?_⟩⟩
  rw [← flat_edges, ← hs]
  refine take_flat cur _ ?_
  rw [hs, h3]
  exact Nat.mul_le_mul_right 2 h1
end Go.Proofs.YtbmhehjllchpoaaGreat
