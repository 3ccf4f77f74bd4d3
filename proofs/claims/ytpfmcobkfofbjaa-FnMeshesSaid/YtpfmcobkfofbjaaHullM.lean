/- The vertices of a subdivided mesh lie within the bounds of the mesh: plain words. -/
import Derived.Test.YtpfmcobkfofbjaaTopo
namespace Go.Proofs.Ytpfmcobkfofbjaa
open Go Go.RowKit
theorem div_in {lo hi s n : Int} (hn : 1 ≤ n) (h1 : lo * n ≤ s) (h2 : s ≤ hi * n) : lo ≤ fdivI s n ∧ fdivI s n ≤ hi := by
  rw [fdiv_hi hn]
  exact ⟨(Int.le_ediv_iff_mul_le (by omega)).2 h1, Int.ediv_le_of_le_mul (by omega) h2⟩
theorem sum_btw {α : Type} {f : α → Int} {lo hi : Int} : ∀ {l : List α}, (∀ x ∈ l, lo ≤ f x ∧ f x ≤ hi) → lo * (l.length : Int) ≤ (l.map f).sum ∧ (l.map f).sum ≤ hi * (l.length : Int)
  | [], _ => by simp
  | x :: l, h => by
    have h1 := sum_btw (l := l) (fun y hy => h y (by simp [hy]))
    have h2 := h x (by simp)
    simp only [List.map_cons, List.sum_cons, List.length_cons, Int.natCast_add, Int.mul_add]
    omega
/-- One of the three coordinates. -/
def Coord (g : VecD → Int) : Prop := g = (·.f0) ∨ g = (·.f1) ∨ g = (·.f2)
theorem fp_g {g : VecD → Int} (hg : Coord g) (p : MeshD) (x : Int) : g (fpD p x) = fdivI (sumTo p.verts g (faceAt p.faces x.toNat) 4) 4 := by
  rcases hg with rfl | rfl | rfl <;> rfl
theorem ep_g {g : VecD → Int} (hg : Coord g) (p : MeshD) (e : Int × Int) : g (epD p e) = fdivI ((epL p e.1 e.2 (hitsTo p.faces e p.nF)).map g).sum ((epL p e.1 e.2 (hitsTo p.faces e p.nF)).length : Int) := by
  rw [← sumL_full]
  rcases hg with rfl | rfl | rfl <;> rfl
section
variable {p : MeshD} {lo hi : Int} {g : VecD → Int}
theorem face_in (hm : meshOk p) (hv : ∀ x, 0 ≤ x → x < (p.nV : Int) → lo ≤ g (vtx p x) ∧ g (vtx p x) ≤ hi) (hg : Coord g) {x : Int} (hx : 0 ≤ x ∧ x < (p.nF : Int)) : lo ≤ g (fpD p x) ∧ g (fpD p x) ≤ hi := by
  rw [fp_g hg]
  have hf := hm.2.2.2.1 x.toNat (by omega)
  have h := sum_btw (f := fun i : Nat => g (p.verts.getD ((faceAt p.faces x.toNat).getD i 0).toNat default)) (lo := lo) (hi := hi) (l := List.range 4) (fun i hi' => by
    have hi4 := List.mem_range.1 hi'
    have h1 := hf.2.1 i (by rw [hf.1]; exact hi4)
    exact hv _ h1.1 (by omega))
  rw [List.length_range] at h
  exact div_in (by omega) h.1 h.2
theorem hits_in {s : List (List Int)} {e : Int × Int} {k : Nat} {x : Int} (h : x ∈ hitsTo s e k) : 0 ≤ x ∧ x < (k : Int) := by
  simp only [hitsTo, List.mem_flatten, List.mem_map, List.mem_range] at h
  obtain ⟨l, ⟨i, hi, rfl⟩, hx⟩ := h
  simp only [stepHits, List.mem_map] at hx
  obtain ⟨_, _, rfl⟩ := hx
  omega
theorem edge_ends (hm : meshOk p) {e : Int × Int} (he : e ∈ edgesL p.faces p.nF) : (0 ≤ e.1 ∧ e.1 < (p.nV : Int)) ∧ (0 ≤ e.2 ∧ e.2 < (p.nV : Int)) := by
  obtain ⟨i, j, hi, hj, rfl⟩ := mem_edgesL he
  have hs := step_in (hm.2.2.2.1 i hi) hj
  generalize stepAt (faceAt p.faces i) j = q at *
  obtain ⟨a, b⟩ := q
  simp only at hs
  simp only [und]
  omega
theorem edge_in (hm : meshOk p) (hv : ∀ x, 0 ≤ x → x < (p.nV : Int) → lo ≤ g (vtx p x) ∧ g (vtx p x) ≤ hi) (hg : Coord g) {e : Int × Int} (he : e ∈ edgesL p.faces p.nF) : lo ≤ g (epD p e) ∧ g (epD p e) ≤ hi := by
  rw [ep_g hg]
  obtain ⟨h1, h2⟩ := edge_ends hm he
  have h := sum_btw (f := g) (lo := lo) (hi := hi) (l := epL p e.1 e.2 (hitsTo p.faces e p.nF)) (fun u hu => by
    unfold epL at hu
    rw [List.mem_append] at hu
    rcases hu with hu | hu
    · simp only [List.mem_cons, List.not_mem_nil, or_false] at hu
      rcases hu with rfl | rfl
      · exact hv _ h1.1 h1.2
      · exact hv _ h2.1 h2.2
    · by_cases h4 : (hitsTo p.faces e p.nF).length = 2
      · rw [if_pos h4] at hu
        have hmem : ∀ t, t < 2 → (hitsTo p.faces e p.nF).getD t 0 ∈ hitsTo p.faces e p.nF := fun t ht => by
          rw [List.getD_eq_getElem?_getD, List.getElem?_eq_getElem (by omega)]
          exact List.getElem_mem _
        simp only [List.mem_cons, List.not_mem_nil, or_false] at hu
        rcases hu with rfl | rfl
        · exact face_in hm hv hg (hits_in (hmem 0 (by omega)))
        · exact face_in hm hv hg (hits_in (hmem 1 (by omega)))
      · rw [if_neg h4] at hu; cases hu)
  have hl : 1 ≤ ((epL p e.1 e.2 (hitsTo p.faces e p.nF)).length : Int) := by simp [epL]; omega
  exact div_in hl h.1 h.2
theorem bnd_sub {s : List (List Int)} {k : Nat} : ∀ e ∈ bndL s k, e ∈ edgesL s k := fun _e he => (List.mem_filter.1 he).1
theorem vp_rim (hg : Coord g) {v : Int} (h : (nbOf (bndL p.faces p.nF) v).length = 2) : g (vpD p v) = fdivI (g (vtx p v) * 6 + sumG g p (nbOf (bndL p.faces p.nF) v)) 8 := by
  have e : vpE p v = vecV (fdivI ((vtx p v).f0 * 6 + sumG (·.f0) p (nbOf (bndL p.faces p.nF) v)) 8) (fdivI ((vtx p v).f1 * 6 + sumG (·.f1) p (nbOf (bndL p.faces p.nF) v)) 8) (fdivI ((vtx p v).f2 * 6 + sumG (·.f2) p (nbOf (bndL p.faces p.nF) v)) 8) := by
    unfold vpE
    dsimp only
    rw [if_pos h]
  rw [vpD, e]
  rcases hg with rfl | rfl | rfl <;> rfl
theorem vp_mid (hg : Coord g) {v : Int} (h0 : (nbOf (bndL p.faces p.nF) v).length = 0) (h1 : (vfTo p.faces v p.nF).length = 3) (h2 : (nbOf (edgesL p.faces p.nF) v).length = 3) : g (vpD p v) = fdivI (sumH g p (vfTo p.faces v p.nF) + (g (vtx p v) * 3 + sumG g p (nbOf (edgesL p.faces p.nF) v))) 9 := by
  have e : vpE p v = vecV (fdivI (sumH (·.f0) p (vfTo p.faces v p.nF) + ((vtx p v).f0 * 3 + sumG (·.f0) p (nbOf (edgesL p.faces p.nF) v))) 9) (fdivI (sumH (·.f1) p (vfTo p.faces v p.nF) + ((vtx p v).f1 * 3 + sumG (·.f1) p (nbOf (edgesL p.faces p.nF) v))) 9) (fdivI (sumH (·.f2) p (vfTo p.faces v p.nF) + ((vtx p v).f2 * 3 + sumG (·.f2) p (nbOf (edgesL p.faces p.nF) v))) 9) := by
    unfold vpE
    dsimp only
    rw [if_neg (by omega), if_neg (by omega), h1, h2]
    simp
  rw [vpD, e]
  rcases hg with rfl | rfl | rfl <;> rfl
theorem vert_in (hm : meshOk p) (hv : ∀ x, 0 ≤ x → x < (p.nV : Int) → lo ≤ g (vtx p x) ∧ g (vtx p x) ≤ hi) (hg : Coord g) (hr : rimT p.faces p.nF p.nV = true) {v : Nat} (hlt : v < p.nV) : lo ≤ g (vpD p (v : Int)) ∧ g (vpD p (v : Int)) ≤ hi := by
  simp only [rimT, List.all_eq_true, List.mem_range, Bool.or_eq_true, Bool.and_eq_true, decide_eq_true_eq] at hr
  have hold := hv (v : Int) (by omega) (by omega)
  have hG : ∀ L : List (Int × Int), (∀ e ∈ L, e ∈ edgesL p.faces p.nF) → lo * ((nbOf L (v : Int)).length : Int) ≤ sumG g p (nbOf L (v : Int)) ∧ sumG g p (nbOf L (v : Int)) ≤ hi * ((nbOf L (v : Int)).length : Int) := fun L hL => sum_btw (f := fun x => g (vtx p x)) (fun x hx => by
    have := nb_in hm hL hx
    exact hv x this.1 this.2)
  rcases hr v hlt with h | ⟨⟨h0, h1⟩, h2⟩
  · rw [vp_rim hg h]
    have h3 := hG _ bnd_sub
    rw [h] at h3
    exact div_in (by omega) (by omega) (by omega)
  · rw [← vfC_eq] at h1
    rw [vp_mid hg h0 h1 h2]
    have h3 := hG _ (fun e he => he)
    rw [h2] at h3
    have h4 := sum_btw (f := fun x => g (fpD p x)) (lo := lo) (hi := hi) (l := vfTo p.faces (v : Int) p.nF) (fun x hx => face_in hm hv hg (vf_in hx))
    rw [h1] at h4
    have h5 : lo * 3 ≤ sumH g p (vfTo p.faces (v : Int) p.nF) ∧ sumH g p (vfTo p.faces (v : Int) p.nF) ≤ hi * 3 := h4
    exact div_in (by omega) (by omega) (by omega)
/-- All the vertices. -/
theorem hull_in (hm : meshOk p) (hv : ∀ x, 0 ≤ x → x < (p.nV : Int) → lo ≤ g (vtx p x) ∧ g (vtx p x) ≤ hi) (hg : Coord g) (hr : rimT p.faces p.nF p.nV = true) : ∀ u ∈ subVs p, lo ≤ g u ∧ g u ≤ hi := by
  intro u hu
  simp only [subVs, List.mem_append, List.mem_map, List.mem_range] at hu
  rcases hu with (⟨v, hlt, rfl⟩ | ⟨e, he, rfl⟩) | ⟨i, hlt, rfl⟩
  · exact vert_in hm hv hg hr hlt
  · exact edge_in hm hv hg he
  · exact face_in hm hv hg ⟨by omega, by omega⟩
end
end Go.Proofs.Ytpfmcobkfofbjaa
