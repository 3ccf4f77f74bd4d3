/- Contracts of VertexFaces. -/
import Derived.Test.YtbmhehjllchpoaaValidMesh
import Derived.Test.YtbmhehjllchpoaaAppInt
import Derived.Test.YtbmhehjllchpoaaHasInt
namespace Go.Proofs.Ytbmhehjllchpoaa
open Go Go.RowKit
/-- The faces before k that have the vertex x. -/
noncomputable def vfTo (s : List (List Int)) (x : Int) (k : Nat) : List Int := ((List.range k).filter fun i => hasB (faceAt s i) x).map fun i : Nat => (i : Int)
theorem vfTo_succ (s : List (List Int)) (x : Int) (k : Nat) : vfTo s x (k + 1) = vfTo s x k ++ (if hasB (faceAt s k) x then [(k : Int)] else []) := by
  simp only [vfTo, List.range_succ, List.filter_append, List.map_append, List.filter_cons, List.filter_nil]
  split <;> simp
theorem vfTo_len (s : List (List Int)) (x : Int) (k : Nat) : (vfTo s x k).length ≤ k := by
  have := List.length_filter_le (fun i => hasB (faceAt s i) x) (List.range k)
  simpa [vfTo] using this
noncomputable def vfacesD (p : MeshD) (x : Int) : List Int := if meshOkB p then vfTo p.faces x p.nF else []
theorem vfacesD_len (p : MeshD) (x : Int) : (vfacesD p x).length ≤ 1048576 := by
  unfold vfacesD
  split
  · have := vfTo_len p.faces x p.nF
    have h := (meshOkB_true.1 (by assumption)).2.1
    omega
  · simp
set_option maxRecDepth 100000 in
set_option maxHeartbeats 1000000 in
theorem impl_vertexFaces_c (v : Value) (p : MeshD) (x : Int) (w : World) (hr : MeshR w v p) (hs : MeshSz 1048576 p) :
    Calls Try.prog 66 #[v, .int .i64 x] w (Gives w 1 (vfTo p.faces x p.nF).length (intAt (vfTo p.faces x p.nF))) := by
  obtain ⟨a, c, a', c', rfl, h1, ⟨A, K, h2, h3, h4⟩⟩ := hr
  obtain ⟨hs1, hs2, hs3⟩ := hs
  generalize p.nV = n at *
  generalize p.nF = m at *
  generalize p.verts = l at *
  generalize p.faces = s at *
  have HF := Lib.hid h2
  have HQ := Lib.hid h3
  have HSZ := Lib.hid hs3
  clear h1 h2 h3 h4 hs3
  go_enter Try.func66, Try.ntmps66
  go_wp2
  go_loopw [5, 12] (fun out i wr => ∃ (k : Nat), k ≤ m ∧ i = .int .i64 k ∧ Below w.heap.size w wr ∧ w.heap.size + 1 ≤ wr.heap.size ∧ wr.ownsRow (w.heap.size + 1) 3 1 out (vfTo s x k).length ((vfTo s x k).map (.int .i64))) (fun _ i _ => m - (intOf i).toNat)
  case atStart =>
    refine ⟨0, by omega, rfl, (by repeat (first | exact Below.refl _ _ | refine Below.drew ?_ | refine Below.alloc ?_ (by first | exact Nat.le_refl _ | (simp; done) | (simp; omega) | omega) _ | refine Below.more ?_ (by first | exact Nat.le_refl _ | (simp; done) | (simp; omega) | omega) _ _ | refine Below.setCell ?_ (by first | exact Nat.le_refl _ | (simp; done) | (simp; omega) | omega) _ | assumption)), by simp, ?_⟩
    have hz := World.ownsRow_made (e := 3) (size := 1) (base := w.heap.size + 1) (w.alloc (.cells #[.slice a n c, .slice a' m c'] 30)) #[] 0 (by simp) (by decide) (by simp)
    simpa [vfTo] using hz
  case round =>
    obtain ⟨k, hk, rfl, hbel, hws, hown⟩ := hrel
    have HBEL := Lib.hid hbel
    have HOWN := Lib.hid hown
    clear hbel hown
    by_cases hlt : k < m
    · have hk1 : (k : Int) < (m : Int) := by omega
      obtain ⟨b, o, e, hb, hc⟩ := HF.out.below HBEL.out (by omega)
      subst e
      have c0 : wr.cell? ⟨b, o + k, none⟩ = some (.slice (A k) (faceAt s k).length (K k)) := by have := hc k hlt 0 (by omega); rw [Nat.mul_one, Nat.add_zero] at this; exact this
      clear hc
      have hsl : Sl wr (A k) 1 (faceAt s k).length (intAt (faceAt s k)) := (HQ.out k hlt).below HBEL.out
      have hsn := HSZ.out k hlt
      have HSU := Lib.hid (vfTo_succ s x k)
      have hln : (vfTo s x k).length ≤ 1048576 := Nat.le_trans (vfTo_len s x k) (by omega)
      generalize A k = ak at *
      generalize K k = kk at *
      generalize faceAt s k = f at *
      generalize vfTo s x k = L0 at *
      have HSL := Lib.hid hsl
      clear hsl
      generalize hq : f.length = q at *
      have HQL := Lib.hid hq
      clear hq
      cases hh : hasB f x
      · have HE := Lib.hid (show vfTo s x (k + 1) = L0 by rw [HSU.out, hh]; simp)
        have HH := Lib.hid hh
        clear hh
        go_wp2_with (go_at_call 90; refine (contains_c _ _ f q HQL x _ (HSL.out.below (by repeat (first | exact Below.refl _ _ | refine Below.drew ?_ | refine Below.alloc ?_ (by first | exact Nat.le_refl _ | (simp; done) | (simp; omega) | omega) _ | refine Below.more ?_ (by first | exact Nat.le_refl _ | (simp; done) | (simp; omega) | omega) _ _ | refine Below.setCell ?_ (by first | exact Nat.le_refl _ | (simp; done) | (simp; omega) | omega) _ | assumption))) hsn).mono ?_; rw [HH.out]; rintro e w' ⟨rfl, rfl⟩)
        refine ⟨⟨k + 1, by omega, rfl, Below.trans HBEL.out (by repeat (first | exact Below.refl _ _ | refine Below.drew ?_ | refine Below.alloc ?_ (by first | exact Nat.le_refl _ | (simp; done) | (simp; omega) | omega) _ | refine Below.more ?_ (by first | exact Nat.le_refl _ | (simp; done) | (simp; omega) | omega) _ _ | refine Below.setCell ?_ (by first | exact Nat.le_refl _ | (simp; done) | (simp; omega) | omega) _ | assumption)), by first | exact hws | (simp; omega), ?_⟩, by simp only [intOf]; omega⟩
        rw [HE.out]
        exact own_kept HOWN.out (by repeat (first | exact Below.refl _ _ | refine Below.drew ?_ | refine Below.alloc ?_ (by first | exact Nat.le_refl _ | (simp; done) | (simp; omega) | omega) _ | refine Below.more ?_ (by first | exact Nat.le_refl _ | (simp; done) | (simp; omega) | omega) _ _ | refine Below.setCell ?_ (by first | exact Nat.le_refl _ | (simp; done) | (simp; omega) | omega) _ | assumption))
      · have HE := Lib.hid (show vfTo s x (k + 1) = L0 ++ [(k : Int)] by rw [HSU.out, hh]; simp)
        have HH := Lib.hid hh
        clear hh
        go_wp2_with (first | (go_at_call 90; refine (contains_c _ _ f q HQL x _ (HSL.out.below (by repeat (first | exact Below.refl _ _ | refine Below.drew ?_ | refine Below.alloc ?_ (by first | exact Nat.le_refl _ | (simp; done) | (simp; omega) | omega) _ | refine Below.more ?_ (by first | exact Nat.le_refl _ | (simp; done) | (simp; omega) | omega) _ _ | refine Below.setCell ?_ (by first | exact Nat.le_refl _ | (simp; done) | (simp; omega) | omega) _ | assumption))) hsn).mono ?_; rw [HH.out]; rintro e w' ⟨rfl, rfl⟩) | (at_builtin; go_loud (refine wpList_append_int _ rfl _ _ rfl (w.heap.size + 1) _ _ _ rfl (own_kept HOWN.out (by repeat (first | exact Below.refl _ _ | refine Below.drew ?_ | refine Below.alloc ?_ (by first | exact Nat.le_refl _ | (simp; done) | (simp; omega) | omega) _ | refine Below.more ?_ (by first | exact Nat.le_refl _ | (simp; done) | (simp; omega) | omega) _ _ | refine Below.setCell ?_ (by first | exact Nat.le_refl _ | (simp; done) | (simp; omega) | omega) _ | assumption))) _ 1 rfl (k : Int) ?c1 hln ?c2 ?_)))
        case c1 => simp [go_sem]
        case c2 => simp; omega
        intro v' w' hp' hb'
        have HP' := Lib.hid hp'
        have HB' := Lib.hid (Below.trans HBEL.out (Below.trans (show Below w.heap.size wr _ from (by repeat (first | exact Below.refl _ _ | refine Below.drew ?_ | refine Below.alloc ?_ (by first | exact Nat.le_refl _ | (simp; done) | (simp; omega) | omega) _ | refine Below.more ?_ (by first | exact Nat.le_refl _ | (simp; done) | (simp; omega) | omega) _ _ | refine Below.setCell ?_ (by first | exact Nat.le_refl _ | (simp; done) | (simp; omega) | omega) _ | assumption))) (hb'.mono (Nat.le_succ _))))
        have hws' := Nat.le_trans hws (Nat.le_trans (show wr.heap.size ≤ _ from by simp) hb'.size)
        clear hp' hb'
        go_wp2
        refine ⟨⟨k + 1, by omega, rfl, HB'.out, hws', ?_⟩, by simp only [intOf]; omega⟩
        rw [HE.out, List.length_append, List.length_singleton, List.map_append]
        exact HP'.out
    · have hk1 : ¬ (k : Int) < (m : Int) := by omega
      obtain rfl : k = m := by omega
      go_wp2
      go_ret
      exact gives_ints HOWN.out HBEL.out (Nat.le_succ _)
set_option maxRecDepth 100000 in
theorem impl_VertexFaces_c (v : Value) (p : MeshD) (x : Int) (w : World) (hr : MeshR w v p) (hs : MeshSz 1048576 p) :
    Calls Try.prog 23 #[v, .int .i64 x] w (Gives w 1 (vfacesD p x).length (intAt (vfacesD p x))) := by
  have HM := Lib.hid hr
  have HS := Lib.hid hs
  obtain ⟨a, c, a', c', rfl, _, _⟩ := hr
  clear hs
  cases hok : meshOkB p
  · have HE := Lib.hid (show vfacesD p x = [] by simp [vfacesD, hok])
    have HOK := Lib.hid hok
    clear hok
    go_enter Try.func23, Try.ntmps23
    go_wp2_with (go_at_call 17; refine (impl_IsValidMesh_c _ p _ (HM.out.below (by repeat (first | exact Below.refl _ _ | refine Below.drew ?_ | refine Below.alloc ?_ (by first | exact Nat.le_refl _ | (simp; done) | (simp; omega) | omega) _ | refine Below.more ?_ (by first | exact Nat.le_refl _ | (simp; done) | (simp; omega) | omega) _ _ | refine Below.setCell ?_ (by first | exact Nat.le_refl _ | (simp; done) | (simp; omega) | omega) _ | assumption))) HS.out).mono ?_; rw [HOK.out]; rintro e wn ⟨rfl, hbn⟩; obtain ⟨X, nX, rfl⟩ := Below.ext hbn; clear hbn)
    go_ret
    rw [HE.out]
    exact Gives.nil (by repeat (first | exact Below.refl _ _ | refine Below.drew ?_ | refine Below.alloc ?_ (by first | exact Nat.le_refl _ | (simp; done) | (simp; omega) | omega) _ | refine Below.more ?_ (by first | exact Nat.le_refl _ | (simp; done) | (simp; omega) | omega) _ _ | refine Below.setCell ?_ (by first | exact Nat.le_refl _ | (simp; done) | (simp; omega) | omega) _ | assumption))
  · have HE := Lib.hid (show vfacesD p x = vfTo p.faces x p.nF by simp [vfacesD, hok])
    have HOK := Lib.hid hok
    clear hok
    go_enter Try.func23, Try.ntmps23
    go_wp2_with (first | (go_at_call 17; refine (impl_IsValidMesh_c _ p _ (HM.out.below (by repeat (first | exact Below.refl _ _ | refine Below.drew ?_ | refine Below.alloc ?_ (by first | exact Nat.le_refl _ | (simp; done) | (simp; omega) | omega) _ | refine Below.more ?_ (by first | exact Nat.le_refl _ | (simp; done) | (simp; omega) | omega) _ _ | refine Below.setCell ?_ (by first | exact Nat.le_refl _ | (simp; done) | (simp; omega) | omega) _ | assumption))) HS.out).mono ?_; rw [HOK.out]; rintro e wn ⟨rfl, hbn⟩; obtain ⟨X, nX, rfl⟩ := Below.ext hbn; clear hbn) | (go_at_call 66; refine (impl_vertexFaces_c _ p x _ (HM.out.below (by repeat (first | exact Below.refl _ _ | refine Below.drew ?_ | refine Below.alloc ?_ (by first | exact Nat.le_refl _ | (simp; done) | (simp; omega) | omega) _ | refine Below.more ?_ (by first | exact Nat.le_refl _ | (simp; done) | (simp; omega) | omega) _ _ | refine Below.setCell ?_ (by first | exact Nat.le_refl _ | (simp; done) | (simp; omega) | omega) _ | assumption))) HS.out).mono ?_; rintro e wn ⟨a2, c2, rfl, ho, hbn⟩; have HO := Lib.hid ho; have HBN := Lib.hid hbn; clear ho hbn))
    go_ret
    rw [HE.out]
    exact ⟨a2, c2, rfl, HO.out.wide (by simp; try omega) (Nat.le_refl _), Below.trans (by repeat (first | exact Below.refl _ _ | refine Below.drew ?_ | refine Below.alloc ?_ (by first | exact Nat.le_refl _ | (simp; done) | (simp; omega) | omega) _ | refine Below.more ?_ (by first | exact Nat.le_refl _ | (simp; done) | (simp; omega) | omega) _ _ | refine Below.setCell ?_ (by first | exact Nat.le_refl _ | (simp; done) | (simp; omega) | omega) _ | assumption)) (HBN.out.mono (by simp; try omega))⟩
end Go.Proofs.Ytbmhehjllchpoaa
