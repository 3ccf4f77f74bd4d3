/- Both Subdivides, in one form of contract. -/
import Derived.Test.YtpfmcobkfofbjaaSubI
import Derived.Test.YtpfmcobkfofbjaaSubJ
import Derived.Test.YtpfmcobkfofbjaaMeshX
namespace Go.Proofs.Ytpfmcobkfofbjaa
open Go Go.RowKit
theorem subEG_of {p : MeshD} {w w' : World} {e : Ending} (h : SubE p w e w') : SubEG p w e w' := by
  obtain ⟨vs, fs, h1, h2, h3, h4⟩ := h
  exact ⟨vs, fs, h1, h2, facesG_of h3, h4⟩
theorem gives_of_E {p : MeshD} (hok : subOk p) {w w' : World} {e : Ending} (h : SubEG p w e w') : GivesM (subD p) (subB p) w e w' := by
  obtain ⟨vs, fs, rfl, h1, h2, h3⟩ := h
  have hb : subB p = true := by simp [subB, hok]
  have hd : subD p = ⟨subVs p, subFs p, p.nV + (edgesL p.faces p.nF).length + p.nF, 4 * p.nF, subVs_len p, subFs_len p⟩ := by rw [subD, if_pos hok]
  have h16 := hok.2.1
  have h80 := hok.2.2
  refine ⟨_, by rw [hb], ?_, h3⟩
  rw [hd]
  refine meshX_g ?_ ?_ (by dsimp only; omega) (by dsimp only; omega)
  · rw [subVs_len] at h1; exact h1
  · rw [subFs_len] at h2; exact h2
theorem gives_of_no {p : MeshD} (hok : ¬ subOk p) {w w' : World} {e : Ending} (h : SubNo w e w') : GivesM (subD p) (subB p) w e w' := by
  obtain ⟨rfl, h3⟩ := h
  have hb : subB p = false := by simp [subB, hok]
  have hd : subD p = ⟨[], [], 0, 0, rfl, rfl⟩ := by rw [subD, if_neg hok]
  refine ⟨_, by rw [hb], ?_, h3⟩
  rw [hd]
  exact MeshX.nil _ _ _ rfl rfl
theorem impl_Subdivide_g (v : Value) (p : MeshD) (w : World) (hr : MeshR w v p) (hs : MeshSz 1048576 p) : Calls Try.prog 7 #[v] w (GivesM (subD p) (subB p) w) := by
  by_cases hok : subOk p
  · exact (impl_Subdivide_c v p w hr hs hok).mono fun _ _ h => gives_of_E hok h
  · exact (impl_Subdivide_no v p w hr hs hok).mono fun _ _ h => gives_of_no hok h
end Go.Proofs.Ytpfmcobkfofbjaa
