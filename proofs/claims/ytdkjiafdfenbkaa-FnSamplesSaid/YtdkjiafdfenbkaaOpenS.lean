/- An argument that is a slice of integers: its row of cells. -/
import Derived.Test.YtdkjiafdfenbkaaRow
import Derived.ProofKit
namespace Go.Proofs.Ytdkjiafdfenbkaa
open Go.RowKit Go.ChangeShapes Go.WideShapes
theorem Row.at_new {w : World} {b : Nat} (xs : List Value) (s n cap : Nat) (e : TypeId) (hb : b = w.heap.size) (h : xs.length = n * s) (hs : 0 < s) : Row (w.alloc (.cells ⟨xs⟩ e)) (.slice (some ⟨b, 0, none⟩) n cap) s n xs := by
  subst hb; exact Row.new w xs s n cap e h hs
set_option maxRecDepth 100000 in
theorem open_intslice {H : Type} {enc : TypeId × Value → H} {W : World} {base : Nat} {v : Value} {d : DataW H} {p : List MemPlace}
    (k : Value.okWide Try.prog W .any base 26 v) (h : DataW.Trod enc Try.prog W 0 (fun _ => true) true 26 v d p) :
    ∃ ns : List Int, Row W v 1 ns.length (ns.map (.int .i64)) ∧ ∀ x ∈ ns, (Lit.int .i64 x).wf = true := by
  obtain ⟨a0, len, cap, rfl⟩ := okWide_slice Try.underlying26 k
  obtain ⟨fuel, hf⟩ := h
  rcases open_ints Try.underlying26 Try.underlying3 (by kernel_rfl) hf with ⟨hcs, _⟩ | ⟨x, l, c, zs, hcs, _, hl, _, hz, _, hcell, hwz⟩
  · simp [Value.cells] at hcs
    obtain ⟨rfl, rfl, rfl⟩ := hcs
    exact ⟨[], ⟨rfl, .inl ⟨rfl, _, _, rfl⟩⟩, by simp⟩
  · simp [Value.cells] at hcs
    obtain ⟨rfl, rfl, rfl⟩ := hcs
    have hz' : zs.length = cap := by simpa using hz
    have hlen : (zs.take len).length = len := by rw [List.length_take]; omega
    refine ⟨zs.take len, ⟨by simp, ?_⟩, fun y hy => hwz y (List.mem_of_mem_take hy)⟩
    rw [hlen]
    by_cases h0 : len = 0
    · subst h0; exact .inl ⟨rfl, _, _, rfl⟩
    · obtain ⟨b, off, spot⟩ := x
      have c0 := hcell 0 (by omega)
      have hspot : spot = none := by simpa [Addr.add] using World.cell?_spot c0
      subst hspot
      refine .inr ⟨b, off, cap, rfl, by omega, World.block_lt_of_cell? W _ c0, fun j hj => ?_⟩
      have hj' : j < len := by omega
      have cj := hcell j (by omega)
      have e1 : (⟨b, off, none⟩ : Addr).add j = ⟨b, off + j, none⟩ := by simp [Addr.add]
      rw [e1] at cj
      rw [cj, cell_map (by rw [hlen]; exact hj')]
      rw [List.getD_eq_getElem?_getD, List.getD_eq_getElem?_getD, List.getElem?_take, if_pos hj']
theorem open_intslice' {H : Type} {enc : TypeId × Value → H} {W : World} {base : Nat} {v : Value} {d : DataW H} {p : List MemPlace}
    (k : Value.okWide Try.prog W .any base 26 v) (h : DataW.Trod enc Try.prog W 0 (fun _ => true) true 26 v d p) :
    ∃ (ns : List Int) (n : Nat) (a : Option Addr) (cap : Nat), v = .slice a n cap ∧ Hid (ns.length = n) ∧ Hid (Row W (.slice a n cap) 1 n (ns.map (.int .i64))) ∧ ∀ x ∈ ns, (Lit.int .i64 x).wf = true := by
  obtain ⟨ns, hr, hx⟩ := open_intslice k h
  obtain ⟨a, cap, rfl⟩ := hr.len
  exact ⟨ns, _, a, cap, rfl, Lib.hid rfl, Lib.hid hr, hx⟩
end Go.Proofs.Ytdkjiafdfenbkaa
