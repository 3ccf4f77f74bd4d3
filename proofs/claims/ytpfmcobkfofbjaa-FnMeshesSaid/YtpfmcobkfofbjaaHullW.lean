/- What holds of the drawn meshes. -/
import Derived.Test.YtpfmcobkfofbjaaMakeMesh
import Derived.Test.YtpfmcobkfofbjaaHullM
import Derived.Test.YtpfmcobkfofbjaaBox2
namespace Go.Proofs.Ytpfmcobkfofbjaa
open Go Go.RowKit
theorem drawn_T {p : MeshD} (h : DrawnT p) : ∃ E, meshT p.faces p.nF p.nV E = true ∧ rimT p.faces p.nF p.nV = true ∧ E ≤ 12 ∧ 1 ≤ p.nF ∧ p.nF ≤ 6 ∧ 1 ≤ p.nV ∧ p.nV ≤ 8 := by
  rcases h.2 with ⟨h1, h2, h3⟩ | ⟨n, hn, hn3, h1, h2, h3⟩
  · rw [h1, h2, h3]; exact ⟨12, cube_T, cube_R, by omega, by omega, by omega, by omega, by omega⟩
  · rw [h1, h2, h3]
    match n, hn, hn3 with
    | 1, _, _ => exact ⟨4, strip1_T, strip1_R, by omega, by omega, by omega, by omega, by omega⟩
    | 2, _, _ => exact ⟨7, strip2_T, strip2_R, by omega, by omega, by omega, by omega, by omega⟩
    | 3, _, _ => exact ⟨10, strip3_T, strip3_R, by omega, by omega, by omega, by omega, by omega⟩
theorem drawn_at {p : MeshD} (h : DrawnT p) {i : Nat} (hi : i < p.nV) : VSm (p.verts.getD i default) := by
  have hl := p.hV
  rw [List.getD_eq_getElem?_getD, List.getElem?_eq_getElem (by omega)]
  exact h.1 _ (List.getElem_mem _)
theorem drawn_ok {p : MeshD} (h : DrawnT p) : subOk p ∧ (edgesL p.faces p.nF).length ≤ 12 := by
  obtain ⟨E, ht, _, hE, h1, h2, h3, h4⟩ := drawn_T h
  simp only [meshT, Bool.and_eq_true, decide_eq_true_eq] at ht
  obtain ⟨⟨⟨⟨ht, he⟩, _⟩, _⟩, _⟩ := ht
  obtain ⟨hf, hnd⟩ := topoT_ok ht
  refine ⟨⟨⟨by omega, by omega, fun i hi => ?_, hf, hnd⟩, by omega, by omega⟩, by omega⟩
  have hv := drawn_at h hi
  have ha := hv.a; have hb := hv.b; have hc := hv.c
  simp only [vecOkD, vecOk, Bool.and_eq_true, inB_true]
  omega
theorem drawn_sz {p : MeshD} (h : DrawnT p) : MeshSz 1048576 p := by
  obtain ⟨⟨hm, _, _⟩, _⟩ := drawn_ok h
  exact ⟨by have := hm.1; omega, by have := hm.2.1; omega, fun i hi => by have := (hm.2.2.2.1 i hi).1; omega⟩
theorem drawn_hull {p : MeshD} (h : DrawnT p) {m : Nat} (hm : p.nV = m + 1) {u : VecD} (hu : u ∈ subVs p) :
    InBox (loN (fun i => (p.verts.getD i default).f0) m) (loN (fun i => (p.verts.getD i default).f1) m) (loN (fun i => (p.verts.getD i default).f2) m) (hiN (fun i => (p.verts.getD i default).f0) m) (hiN (fun i => (p.verts.getD i default).f1) m) (hiN (fun i => (p.verts.getD i default).f2) m) u := by
  obtain ⟨⟨hok, _, _⟩, _⟩ := drawn_ok h
  obtain ⟨E, _, hr, _⟩ := drawn_T h
  have hv : ∀ x : Int, 0 ≤ x → x < (p.nV : Int) → InBox (loN (fun i => (p.verts.getD i default).f0) m) (loN (fun i => (p.verts.getD i default).f1) m) (loN (fun i => (p.verts.getD i default).f2) m) (hiN (fun i => (p.verts.getD i default).f0) m) (hiN (fun i => (p.verts.getD i default).f1) m) (hiN (fun i => (p.verts.getD i default).f2) m) (vtx p x) := fun x h1 h2 => by
    have hs := drawn_at h (i := x.toNat) (by omega)
    have ha := hs.a; have hb := hs.b; have hc := hs.c
    exact inBnd (fun i => p.verts.getD i default) m x.toNat (by omega) ⟨by omega, by omega, by omega⟩
  exact ⟨hull_in hok (fun x h1 h2 => (hv x h1 h2).a) (.inl rfl) hr u hu, hull_in hok (fun x h1 h2 => (hv x h1 h2).b) (.inr (.inl rfl)) hr u hu, hull_in hok (fun x h1 h2 => (hv x h1 h2).c) (.inr (.inr rfl)) hr u hu⟩
end Go.Proofs.Ytpfmcobkfofbjaa
