/- Edges and BoundaryEdges: their results as rows of integers. -/
import Derived.Test.YtbmhehjllchpoaaEdgesS
import Derived.Test.YtbmhehjllchpoaaFsX
namespace Go.Proofs.Ytbmhehjllchpoaa
open Go Go.RowKit
def pairsL (L : List (Int × Int)) : List (List Int) := L.map fun p => [p.1, p.2]
theorem face_pairs {L : List (Int × Int)} {i : Nat} (h : i < L.length) : faceAt (pairsL L) i = [(L.getD i (0, 0)).1, (L.getD i (0, 0)).2] := by
  simp [faceAt, pairsL, List.getD_eq_getElem?_getD, List.getElem?_eq_getElem h]
theorem fsX_of {w : World} {lo hi : Nat} {d : Bool} {a : Option Addr} {cap : Nat} {L : List (Int × Int)} {A : Nat → Option Addr} (h : PairsIn w lo hi (.slice a L.length cap) L A) (hd : d = true → ∀ i j, i < j → j < L.length → A i ≠ A j) : FsX w lo hi d a L.length (pairsL L) none := by
  by_cases h0 : L.length = 0
  · rw [h0]
    exact ⟨A, fun _ => 0, fun _ => 0, 0, Ow.none, fun i hi => absurd hi (Nat.not_lt_zero _), fun _ i j _ hj => absurd hj (Nat.not_lt_zero _), fun h => absurd h (Nat.lt_irrefl _), fun i hi => absurd hi (Nat.not_lt_zero _), fun i hi => absurd hi (Nat.not_lt_zero _)⟩
  have hl2 : ∀ i, i < L.length → (faceAt (pairsL L) i).length = 2 := fun i hi => by rw [face_pairs hi]; rfl
  have hown := h.own
  rcases hown.2 with ⟨_, h1⟩ | ⟨g, cap', cur, h1, hb, hg, hnc, hcm, hcs, ht⟩
  · exact absurd h1 h0
  · simp only [Value.slice.injEq] at h1
    obtain ⟨rfl, _, rfl⟩ := h1
    have htop := h.top g rfl
    have hcl : cap * 1 ≥ L.length := by omega
    have hcl2 : L.length * 1 ≤ cur.toList.length := by have : cur.toList.length = cap * 1 := by simpa using hcs
                                                       omega
    refine ⟨A, fun _ => 2, fun i => match A i with | some ad => ad.block | none => 0, g, fun _ => ⟨g, cur.toList, 39, rfl, Nat.le_refl _, Nat.lt_succ_self _, hg, hcl2, fun i hi j hj => ?_⟩, fun i hi => ?_, fun hdt i j hij hj => ?_, fun _ => ⟨hb, htop⟩, fun i hi => by rw [hl2 i hi]; exact Nat.le_refl 2, fun i hi => by rw [hl2 i hi]; decide⟩
    · obtain rfl : j = 0 := by omega
      rw [Nat.mul_one, Nat.add_zero]
      have h2 : (slices2 A L.length)[i]? = some (.slice (A i) 2 2) := by simp [slices2, hi]
      rw [← ht, List.getElem?_take, if_pos (by omega)] at h2
      rw [h2]
      simp [facesAt, hl2 i hi]
    · obtain ⟨u, hu, h3, h4, h5⟩ := h.pair i hi
      simp only [hu]
      refine ⟨h3, h4, fun e => ?_, fun _ => ⟨u, [.int .i64 (L.getD i (0, 0)).1, .int .i64 (L.getD i (0, 0)).2], 3, rfl, Nat.le_refl _, Nat.lt_succ_self _, h5, by rw [hl2 i hi]; exact Nat.le_refl 2, fun k hk j hj => ?_⟩⟩
      · rw [e, hg] at h5
        simp only [Option.some.injEq, Obj.cells.injEq] at h5
        exact absurd h5.2.1 (by decide)
      · obtain rfl : j = 0 := by omega
        rw [hl2 i hi] at hk
        simp only [fsC, face_pairs hi]
        match k, hk with
        | 0, _ => rfl
        | 1, _ => rfl
    · obtain ⟨u, hu, _⟩ := h.pair i (by omega)
      obtain ⟨v, hv, _⟩ := h.pair j hj
      have hne := hd hdt i j hij hj
      simp only [hu, hv] at hne ⊢
      intro e
      exact hne (by rw [e])
theorem impl_EdgesP_c (v : Value) (p : MeshD) (w : World) (hr : MeshR w v p) (hs : MeshSz 1048576 p) :
    Calls Try.prog 42 #[v] w fun e w' => ∃ a cap, e = .returned (.slice a (edgesD p).length cap) ∧ FsX w' w.heap.size w'.heap.size true a (edgesD p).length (pairsL (edgesD p)) none ∧ Below w.heap.size w w' :=
  (impl_edgesD_c v p w hr hs).mono fun e w' ⟨u, A, he, hp, hd, hb⟩ => by
    obtain ⟨a, cap, rfl⟩ := hp.form
    exact ⟨a, cap, he, fsX_of hp (fun _ => hd), hb⟩
theorem spec_EdgesP_c (v : Value) (p : MeshD) (w : World) (hr : MeshR w v p) (hs : MeshSz 1048576 p) :
    Calls Try.prog 41 #[v] w fun e w' => ∃ a cap, e = .returned (.slice a (edgesD p).length cap) ∧ FsX w' w.heap.size w'.heap.size false a (edgesD p).length (pairsL (edgesD p)) none ∧ Below w.heap.size w w' :=
  (spec_Edges_c v p w hr hs).mono fun e w' ⟨u, A, he, hp, hb⟩ => by
    obtain ⟨a, cap, rfl⟩ := hp.form
    exact ⟨a, cap, he, fsX_of hp (fun h => by cases h), hb⟩
theorem impl_BoundaryEdgesP_c (v : Value) (p : MeshD) (w : World) (hr : MeshR w v p) (hs : MeshSz 1048576 p) :
    Calls Try.prog 47 #[v] w fun e w' => ∃ a cap, e = .returned (.slice a (bndD p).length cap) ∧ FsX w' w.heap.size w'.heap.size true a (bndD p).length (pairsL (bndD p)) none ∧ Below w.heap.size w w' :=
  (impl_bndD_c v p w hr hs).mono fun e w' ⟨u, A, he, hp, hd, hb⟩ => by
    obtain ⟨a, cap, rfl⟩ := hp.form
    exact ⟨a, cap, he, fsX_of hp (fun _ => hd), hb⟩
theorem spec_BoundaryEdgesP_c (v : Value) (p : MeshD) (w : World) (hr : MeshR w v p) (hs : MeshSz 1048576 p) :
    Calls Try.prog 46 #[v] w fun e w' => ∃ a cap, e = .returned (.slice a (bndD p).length cap) ∧ FsX w' w.heap.size w'.heap.size false a (bndD p).length (pairsL (bndD p)) none ∧ Below w.heap.size w w' :=
  (spec_BoundaryEdges_c v p w hr hs).mono fun e w' ⟨u, A, he, hp, hb⟩ => by
    obtain ⟨a, cap, rfl⟩ := hp.form
    exact ⟨a, cap, he, fsX_of hp (fun h => by cases h), hb⟩
end Go.Proofs.Ytbmhehjllchpoaa
