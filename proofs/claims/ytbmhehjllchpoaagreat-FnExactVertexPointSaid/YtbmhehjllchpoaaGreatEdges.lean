/- Edges of the faces of a mesh, and the plain words of what a valid mesh is. -/
import Derived.Test.YtbmhehjllchpoaaGreatMesh2
import Derived.Test.YtbmhehjllchpoaaGreatArgsIn
import Derived.Test.YtbmhehjllchpoaaGreatVec
namespace Go.Proofs.YtbmhehjllchpoaaGreat
open Go Go.RowKit
def stepAt (f : List Int) (i : Nat) : Int × Int := (f.getD i 0, f.getD ((i + 1) % f.length) 0)
def stepsTo (f : List Int) (j : Nat) : List (Int × Int) := (List.range j).map (stepAt f)
def stepsOf (f : List Int) : List (Int × Int) := stepsTo f f.length
theorem stepsTo_succ (f : List Int) (j : Nat) : stepsTo f (j + 1) = stepsTo f j ++ [stepAt f j] := by simp [stepsTo, List.range_succ]
@[simp] theorem stepsTo_len (f : List Int) (j : Nat) : (stepsTo f j).length = j := by simp [stepsTo]
def edgesTo (l : List (List Int)) (k : Nat) : List (Int × Int) := ((List.range k).map fun i => stepsOf (faceAt l i)).flatten
theorem edgesTo_succ (l : List (List Int)) (k : Nat) : edgesTo l (k + 1) = edgesTo l k ++ stepsOf (faceAt l k) := by simp [edgesTo, List.range_succ]
theorem edgesTo_len {l : List (List Int)} : ∀ {k : Nat}, (∀ i, i < k → (faceAt l i).length = 4) → (edgesTo l k).length = 4 * k
  | 0, _ => rfl
  | k + 1, h => by
    rw [edgesTo_succ, List.length_append, edgesTo_len (fun i hi => h i (by omega)), stepsOf, stepsTo_len, h k (by omega)]; omega
theorem prefix_chain {α : Type} {P : Nat → List α} (h : ∀ k, P k <+: P (k + 1)) : ∀ {k n : Nat}, k ≤ n → P k <+: P n := by
  intro k n hkn
  induction hkn with
  | refl => exact List.prefix_refl _
  | step _ ih => exact ih.trans (h _)
theorem stepsTo_prefix (f : List Int) {j n : Nat} (h : j ≤ n) : stepsTo f j <+: stepsTo f n :=
  prefix_chain (P := stepsTo f) (fun k => ⟨_, (stepsTo_succ f k).symm⟩) h
theorem edgesTo_prefix (l : List (List Int)) {k n : Nat} (h : k ≤ n) : edgesTo l k <+: edgesTo l n :=
  prefix_chain (P := edgesTo l) (fun k => ⟨_, (edgesTo_succ l k).symm⟩) h
def faceOk (nV : Nat) (f : List Int) : Prop := f.length = 4 ∧ argsIn f 0 ((nV : Int) - 1) ∧ ∀ i j, i < j → j < f.length → f.getD i 0 ≠ f.getD j 0
open Classical in
noncomputable def faceOkB (nV : Nat) (f : List Int) : Bool := decide (faceOk nV f)
theorem faceOkB_true {nV : Nat} {f : List Int} : faceOkB nV f = true ↔ faceOk nV f := by simp [faceOkB]
theorem faceOkB_false {nV : Nat} {f : List Int} : faceOkB nV f = false ↔ ¬ faceOk nV f := by simp [faceOkB]
def vecOkD (x : VecD) : Bool := vecOk x.f0 x.f1 x.f2
def meshOk (p : MeshD) : Prop := p.nV ≤ 80 ∧ p.nF ≤ 64 ∧ (∀ i, i < p.nV → vecOkD (p.verts.getD i default) = true) ∧ (∀ i, i < p.nF → faceOk p.nV (faceAt p.faces i)) ∧ (edgesTo p.faces p.nF).Nodup
open Classical in
noncomputable def meshOkB (p : MeshD) : Bool := decide (meshOk p)
theorem meshOkB_true {p : MeshD} : meshOkB p = true ↔ meshOk p := by simp [meshOkB]
theorem meshOkB_no {p : MeshD} (h : ¬ meshOk p) : meshOkB p = false := by simpa [meshOkB] using h
theorem mesh_bigV {p : MeshD} (h : 80 < p.nV) : meshOkB p = false := meshOkB_no fun ha => by have := ha.1; omega
theorem mesh_bigF {p : MeshD} (h : 64 < p.nF) : meshOkB p = false := meshOkB_no fun ha => by have := ha.2.1; omega
theorem mesh_vert {p : MeshD} {i : Nat} (h : i < p.nV) (hn : vecOkD (p.verts.getD i default) = false) : meshOkB p = false :=
  meshOkB_no fun ha => by have := ha.2.2.1 i h; rw [hn] at this; cases this
theorem mesh_face {p : MeshD} {i : Nat} (h : i < p.nF) (hn : faceOkB p.nV (faceAt p.faces i) = false) : meshOkB p = false :=
  meshOkB_no fun ha => faceOkB_false.1 hn (ha.2.2.2.1 i h)
theorem mesh_dup {p : MeshD} {k j : Nat} (hk : k < p.nF) (hj : j < (faceAt p.faces k).length) (h : stepAt (faceAt p.faces k) j ∈ edgesTo p.faces k ++ stepsTo (faceAt p.faces k) j) : meshOkB p = false := by
  refine meshOkB_no fun ha => ?_
  have h1 : edgesTo p.faces k ++ stepsTo (faceAt p.faces k) (j + 1) <+: edgesTo p.faces p.nF := by
    refine List.IsPrefix.trans ?_ (edgesTo_prefix p.faces (show k + 1 ≤ p.nF by omega))
    rw [edgesTo_succ]
    exact (List.prefix_append_right_inj _).2 (stepsTo_prefix _ (by omega))
  have h2 := List.Nodup.sublist h1.sublist ha.2.2.2.2
  rw [stepsTo_succ, ← List.append_assoc, List.nodup_append] at h2
  exact h2.2.2 _ h _ (by simp) rfl
theorem mesh_all {p : MeshD} (h1 : p.nV ≤ 80) (h2 : p.nF ≤ 64) (h3 : ∀ i, i < p.nV → vecOkD (p.verts.getD i default) = true) (h4 : ∀ i, i < p.nF → faceOkB p.nV (faceAt p.faces i) = true) (h5 : (edgesTo p.faces p.nF).Nodup) : meshOkB p = true :=
  meshOkB_true.2 ⟨h1, h2, h3, fun i hi => faceOkB_true.1 (h4 i hi), h5⟩
theorem nodup_snoc {α : Type} {L : List α} {x : α} (h : L.Nodup) (hx : x ∉ L) : (L ++ [x]).Nodup := by
  rw [List.nodup_append]
  refine ⟨h, by simp, fun a ha b hb => ?_⟩
  simp only [List.mem_singleton] at hb
  subst hb
  exact fun e => hx (e ▸ ha)
theorem mesh_len4 {nV : Nat} {f : List Int} (h : faceOkB nV f = true) : f.length = 4 := (faceOkB_true.1 h).1
end Go.Proofs.YtbmhehjllchpoaaGreat
