/- Contracts of what the laws do with slices of Int. -/
import Derived.Test.YtpfmcobkfofbjaaTrod
import Derived.Test.YtpfmcobkfofbjaaSVec
namespace Go.Proofs.Ytpfmcobkfofbjaa
open Go.RowKit
set_option linter.unusedVariables false
def intAt (l : List Int) (i : Nat) : List Value := [.int .i64 (l.getD i 0)]
theorem intAt_len (l : List Int) (i : Nat) : (intAt l i).length = 1 := rfl
theorem info_Int : (Try.prog.info? 3).map (fun i => (i.zero, i.size, i.bytes)) = some (some (.int .i64 0), 1, 8) := by kernel_rfl
set_option maxRecDepth 100000 in
theorem open_IntS {H : Type} {enc : TypeId × Value → H} {W : World} {v : Value} {d : DataW H} {p : List MemPlace} {base : Nat} (k : Value.okWide Try.prog W .any base 57 v) (h : DataW.Trod enc Try.prog W 0 (fun _ => true) true 57 v d p) :
    ∃ (a : Option Addr) (cap : Nat) (l : List Int) (n : Nat), v = .slice a n cap ∧ Hid (l.length = n) ∧ Hid (Sl W a 1 n (intAt l)) ∧ n ≤ 9223372036854775807 := by
  obtain ⟨a0, n0, cap0, rfl⟩ := WideShapes.okWide_slice Try.underlying57 k
  obtain ⟨fuel, hf⟩ := h
  obtain ⟨a, n, cap, e, hn, hx⟩ := trod_recs (e := 3) (s := 1) (d := 8) (ts := [3]) Try.underlying57 (by kernel_rfl) (by decide) (by decide +kernel) rfl (v := .slice a0 n0 cap0) (by simpa [Value.cells] using hf)
  obtain ⟨rfl, rfl, rfl⟩ : a = a0 ∧ n = n0 ∧ cap = cap0 := by simp at e; exact ⟨e.1.symm, e.2.1.symm, e.2.2.symm⟩
  unfold maxLen at hn
  by_cases h0 : n = 0
  · subst h0
    exact ⟨_, _, [], 0, rfl, Lib.hid rfl, Lib.hid Sl.none, by omega⟩
  · obtain ⟨b, o, rfl, hb, hc⟩ := hx (by omega)
    have get : ∀ i, i < n → ((List.range n).map fun i => (intC (W.cell? ⟨b, o + i * 1 + 0, none⟩))).getD i 0 = (intC (W.cell? ⟨b, o + i * 1 + 0, none⟩)) := by
      intro i hi
      rw [List.getD_eq_getElem?_getD, List.getElem?_map, List.getElem?_range hi]; rfl
    refine ⟨_, _, (List.range n).map fun i => (intC (W.cell? ⟨b, o + i * 1 + 0, none⟩)), n, rfl, Lib.hid (by simp), Lib.hid (fun _ => ⟨b, o, rfl, hb, fun i hi j hj => ?_⟩), hn⟩
    · unfold intAt
      rw [get i hi]
      obtain ⟨u, m, y, hu, ht⟩ := hc i hi j hj
      rw [hu]
      obtain rfl : j = 0 := by omega
      · obtain ⟨z, e1, _, _⟩ := DataW.trod_int Try.underlying3 ht; obtain rfl : u = .int .i64 z := by simpa using e1
        simp only [hu, intC]; rfl

end Go.Proofs.Ytpfmcobkfofbjaa
