/- Contracts of what the laws do with slices of String. -/
import Derived.Test.YtdkjiafdfenbkaaDoorTrod
import Derived.Test.YtdkjiafdfenbkaaDoorRecs
import Derived.Test.YtdkjiafdfenbkaaDoorMarkText
namespace Go.Proofs.YtdkjiafdfenbkaaDoor
open Go.RowKit
set_option linter.unusedVariables false
def stringAt (l : List ByteArray) (i : Nat) : List Value := [.string (l.getD i ByteArray.empty)]
theorem stringAt_len (l : List ByteArray) (i : Nat) : (stringAt l i).length = 1 := rfl
theorem info_String : (Tryd.prog.info? 9).map (fun i => (i.zero, i.size, i.bytes)) = some (some (.string ByteArray.empty), 1, 16) := by kernel_rfl
set_option maxRecDepth 100000 in
theorem open_StringS {H : Type} {enc : TypeId × Value → H} {W : World} {v : Value} {d : DataW H} {p : List MemPlace} {base : Nat} (k : Value.okWide Tryd.prog W .any base 116 v) (h : DataW.Trod enc Tryd.prog W 0 (fun _ => true) true 116 v d p) :
    ∃ (a : Option Addr) (cap : Nat) (l : List ByteArray) (n : Nat), v = .slice a n cap ∧ Hid (l.length = n) ∧ Hid (Sl W a 1 n (stringAt l)) ∧ n ≤ 9223372036854775807 ∧ ∀ i, i < n → (l.getD i ByteArray.empty).size ≤ 9223372036854775807 := by
  obtain ⟨a0, n0, cap0, rfl⟩ := WideShapes.okWide_slice Tryd.underlying116 k
  obtain ⟨fuel, hf⟩ := h
  obtain ⟨a, n, cap, e, hn, hx⟩ := trod_recs (e := 9) (s := 1) (d := 8) (ts := [9]) Tryd.underlying116 (by kernel_rfl) (by decide) (by decide +kernel) rfl (v := .slice a0 n0 cap0) (by simpa [Value.cells] using hf)
  obtain ⟨rfl, rfl, rfl⟩ : a = a0 ∧ n = n0 ∧ cap = cap0 := by simp at e; exact ⟨e.1.symm, e.2.1.symm, e.2.2.symm⟩
  unfold maxLen at hn
  by_cases h0 : n = 0
  · subst h0
    exact ⟨_, _, [], 0, rfl, Lib.hid rfl, Lib.hid Sl.none, by omega, fun i hi => absurd hi (Nat.not_lt_zero i)⟩
  · obtain ⟨b, o, rfl, hb, hc⟩ := hx (by omega)
    have get : ∀ i, i < n → ((List.range n).map fun i => (strC (W.cell? ⟨b, o + i * 1 + 0, none⟩))).getD i ByteArray.empty = (strC (W.cell? ⟨b, o + i * 1 + 0, none⟩)) := by
      intro i hi
      rw [List.getD_eq_getElem?_getD, List.getElem?_map, List.getElem?_range hi]; rfl
    refine ⟨_, _, (List.range n).map fun i => (strC (W.cell? ⟨b, o + i * 1 + 0, none⟩)), n, rfl, Lib.hid (by simp), Lib.hid (fun _ => ⟨b, o, rfl, hb, fun i hi j hj => ?_⟩), hn, fun i hi => ?_⟩
    · unfold stringAt
      rw [get i hi]
      obtain ⟨u, m, y, hu, ht⟩ := hc i hi j hj
      rw [hu]
      obtain rfl : j = 0 := by omega
      · obtain ⟨z, e1, _, _⟩ := DataW.trod_string Tryd.underlying9 ht; obtain rfl : u = .string z := by simpa using e1
        simp only [hu, strC]; rfl
    · rw [get i hi]
      obtain ⟨u, m, y, hu, ht⟩ := hc i hi 0 (by decide)
      obtain ⟨z, e1, _, hz⟩ := DataW.trod_string Tryd.underlying9 ht; obtain rfl : u = .string z := by simpa using e1
      unfold maxLen at hz; simp only [hu, strC]; exact hz
end Go.Proofs.YtdkjiafdfenbkaaDoor
