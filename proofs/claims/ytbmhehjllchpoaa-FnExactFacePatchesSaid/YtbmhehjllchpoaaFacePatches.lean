/- Contracts of FacePatches. -/
import Derived.Test.YtbmhehjllchpoaaFacePoint
import Derived.Test.YtbmhehjllchpoaaValidMeshS
import Derived.Test.YtbmhehjllchpoaaSPatch
import Derived.Test.YtbmhehjllchpoaaApp
namespace Go.Proofs.Ytbmhehjllchpoaa
open Go Go.RowKit
def quadOf (l : List VecD) (f : List Int) : QuadD := ⟨l.getD (f.getD 0 0).toNat default, l.getD (f.getD 1 0).toNat default, l.getD (f.getD 3 0).toNat default, l.getD (f.getD 2 0).toNat default⟩
def quadsTo (l : List VecD) (s : List (List Int)) (k : Nat) : List QuadD := (List.range k).map fun i => quadOf l (faceAt s i)
theorem quadsTo_len (l : List VecD) (s : List (List Int)) (k : Nat) : (quadsTo l s k).length = k := by simp [quadsTo]
theorem quadsTo_at {l : List VecD} {s : List (List Int)} {k i : Nat} (h : i < k) : QuadD.at (quadsTo l s k) i = (quadOf l (faceAt s i)).cells := by
  unfold QuadD.at quadsTo
  rw [List.getD_eq_getElem?_getD, List.getElem?_map, List.getElem?_range h]; rfl
noncomputable def fpatchesD (p : MeshD) : List QuadD := if meshOkB p then quadsTo p.verts p.faces p.nF else []
theorem fpatchesD_len (p : MeshD) : (fpatchesD p).length ≤ 1048576 := by
  unfold fpatchesD
  split
  · rw [quadsTo_len]
    have h := (meshOkB_true.1 (by assumption)).2.1
    omega
  · simp
def quadAt (l : List VecD) (s : List (List Int)) (i : Nat) : List Value := (quadOf l (faceAt s i)).cells
theorem info_Quad : (Try.prog.info? 78).map (fun i => (i.zero, i.size, i.bytes)) = some (some (.agg #[.int .i64 0, .int .i64 0, .int .i64 0, .int .i64 0, .int .i64 0, .int .i64 0, .int .i64 0, .int .i64 0, .int .i64 0, .int .i64 0, .int .i64 0, .int .i64 0]), 12, 96) := by kernel_rfl
set_option maxRecDepth 100000 in
set_option maxHeartbeats 4000000 in
theorem impl_FacePatches_c (v : Value) (p : MeshD) (w : World) (hr : MeshR w v p) (hs : MeshSz 1048576 p) :
    Calls Try.prog 33 #[v] w (Gives w 12 (fpatchesD p).length (QuadD.at (fpatchesD p))) := by
  have HM := Lib.hid hr
  have HS := Lib.hid hs
  obtain ⟨a, c, a', c', rfl, h1, ⟨A, K, h2, h3, h4⟩⟩ := hr
  obtain ⟨hs1, hs2, hs3⟩ := hs
  clear h4 hs3
  cases hok : meshOkB p
  · have HE := Lib.hid (show fpatchesD p = [] by simp [fpatchesD, hok])
    have HOK := Lib.hid hok
    clear hok h1 h2 h3
    go_enter Try.func33, Try.ntmps33
    go_wp2_with (go_at_call 17; refine (impl_IsValidMesh_c _ p _ (HM.out.below (by repeat (first | exact Below.refl _ _ | refine Below.drew ?_ | refine Below.alloc ?_ (by first | exact Nat.le_refl _ | (simp; done) | (simp; omega) | omega) _ | refine Below.more ?_ (by first | exact Nat.le_refl _ | (simp; done) | (simp; omega) | omega) _ _ | refine Below.setCell ?_ (by first | exact Nat.le_refl _ | (simp; done) | (simp; omega) | omega) _ | assumption))) HS.out).mono ?_; rw [HOK.out]; rintro e wn ⟨rfl, hbn⟩; obtain ⟨X, nX, rfl⟩ := Below.ext hbn; clear hbn)
    go_ret
    rw [HE.out]
    exact Gives.nil (by repeat (first | exact Below.refl _ _ | refine Below.drew ?_ | refine Below.alloc ?_ (by first | exact Nat.le_refl _ | (simp; done) | (simp; omega) | omega) _ | refine Below.more ?_ (by first | exact Nat.le_refl _ | (simp; done) | (simp; omega) | omega) _ _ | refine Below.setCell ?_ (by first | exact Nat.le_refl _ | (simp; done) | (simp; omega) | omega) _ | assumption))
  · obtain ⟨i0', hi, hz0, hz1, hz2⟩ := info_parts info_Quad
    have HE := Lib.hid (show fpatchesD p = quadsTo p.verts p.faces p.nF by simp [fpatchesD, hok])
    have HFA := Lib.hid (fun k hk => faceV_of (meshOkB_true.1 hok) (k := k) hk)
    have hm64 : p.nF ≤ 64 := (meshOkB_true.1 hok).2.1
    have HOK := Lib.hid hok
    have HVM := Lib.hid (fun (W : World) (hb : Below w.heap.size w W) => (show Calls Try.prog 17 #[.agg #[.slice a p.nV c, .slice a' p.nF c']] W (fun e w' => e = .returned (.bool true) ∧ Below W.heap.size W w') from (impl_IsValidMesh_c _ p W (HM.out.below hb) HS.out).mono fun e w' h => ⟨by rw [h.1, HOK.out], h.2⟩))
    clear hok HM HS HOK
    rw [HE.out]
    clear HE
    generalize p.nV = n at *
    generalize p.nF = m at *
    generalize p.verts = l at *
    generalize p.faces = s at *
    have HV := Lib.hid h1
    have HF := Lib.hid h2
    have HQ := Lib.hid h3
    clear h1 h2 h3
    go_enter Try.func33, Try.ntmps33
    go_wp2_with (go_at_call 17; go_loud (refine (HVM.out _ (by repeat (first | exact Below.refl _ _ | refine Below.drew ?_ | refine Below.alloc ?_ (by first | exact Nat.le_refl _ | (simp; done) | (simp; omega) | omega) _ | refine Below.more ?_ (by first | exact Nat.le_refl _ | (simp; done) | (simp; omega) | omega) _ _ | refine Below.setCell ?_ (by first | exact Nat.le_refl _ | (simp; done) | (simp; omega) | omega) _ | assumption))).mono ?_; rintro e wn ⟨rfl, hbn⟩; obtain ⟨X, nX, rfl⟩ := Below.ext hbn; clear hbn))
    go_loopw [3, 13] (fun out i wr => ∃ (k : Nat) (X : Array Obj) (d : Nat), k ≤ m ∧ i = .int .i64 k ∧ wr = more (w.alloc (.cells #[.slice a n c, .slice a' m c'] 30)) X d ∧ (more (w.alloc (.cells #[.slice a n c, .slice a' m c'] 30)) X d).ownsRow (w.heap.size + 1) 78 12 out k (flat 12 k (quadAt l s))) (fun _ i _ => m - (intOf i).toNat)
    case atStart =>
      obtain ⟨X', d', e⟩ := Below.ext (w := w.alloc (.cells #[.slice a n c, .slice a' m c'] 30)) (w' := (more (w.alloc (.cells #[.slice a n c, .slice a' m c'] 30)) X nX).alloc (.cells #[] 78)) (by repeat (first | exact Below.refl _ _ | refine Below.drew ?_ | refine Below.alloc ?_ (by first | exact Nat.le_refl _ | (simp; done) | (simp; omega) | omega) _ | refine Below.more ?_ (by first | exact Nat.le_refl _ | (simp; done) | (simp; omega) | omega) _ _ | refine Below.setCell ?_ (by first | exact Nat.le_refl _ | (simp; done) | (simp; omega) | omega) _ | assumption))
      refine ⟨0, X', d', by omega, rfl, e, ?_⟩
      rw [← e]
      have hz := World.ownsRow_made (e := 78) (size := 12) (base := w.heap.size + 1) (more (w.alloc (.cells #[.slice a n c, .slice a' m c'] 30)) X nX) #[] 0 (by simp) (by decide) (by simp); simpa [flat] using hz
    case round =>
      obtain ⟨k, X, d, hk, rfl, rfl, hown⟩ := hrel
      have HOWN := Lib.hid hown
      clear hown
      by_cases hlt : k < m
      · have hk1 : (k : Int) < (m : Int) := by omega
        obtain ⟨b, o, e, hb, hc⟩ := HF.out (by omega)
        subst e
        have cf : w.cell? ⟨b, o + k, none⟩ = some (.slice (A k) (faceAt s k).length (K k)) := by have := hc k hlt 0 (by omega); rw [Nat.mul_one, Nat.add_zero] at this; exact this
        clear hc
        have hsl : Sl w (A k) 1 (faceAt s k).length (intAt (faceAt s k)) := HQ.out k hlt
        have HFV := HFA.out k hlt
        have HST := Lib.hid (show flat 12 (k + 1) (quadAt l s) = flat 12 k (quadAt l s) ++ (quadOf l (faceAt s k)).cells from flat_succ 12 k _)
        generalize A k = ak at *
        generalize K k = kk at *
        generalize faceAt s k = f at *
        rw [HFV.len] at cf hsl
        obtain ⟨b1, o1, e, hb1, hc1⟩ := hsl (by omega)
        subst e
        obtain ⟨b2, o2, e, hb2, hc2⟩ : ∃ b2 o2, a = some ⟨b2, o2, none⟩ ∧ b2 < w.heap.size ∧ ∀ i, i < n → ∀ j, j < 3 → w.cell? ⟨b2, o2 + i * 3 + j, none⟩ = (VecD.at l i)[j]? := HV.out (by obtain ⟨i, _, h⟩ := HFV.ix 0 (by omega); omega)
        subst e
        have HFVH := Lib.hid HFV
        have HC1 := Lib.hid hc1
        have HC2 := Lib.hid hc2
        clear HFV hc1 hc2
        obtain ⟨i0, h0, n0⟩ := HFVH.out.ix 0 (by omega)
        have m0 : (i0 : Int) < (n : Int) := by omega
        have c0 : w.cell? ⟨b1, o1, none⟩ = some (.int .i64 (i0 : Int)) := (HC1.out 0 (by omega) 0 (by omega)).trans (by rw [← h0]; simp [intAt])
        have d00 : w.cell? ⟨b2, o2 + i0 * 3, none⟩ = some (.int .i64 (l.getD i0 default).f0) := HC2.out i0 n0 0 (by omega)
        have d01 : w.cell? ⟨b2, o2 + i0 * 3 + 1, none⟩ = some (.int .i64 (l.getD i0 default).f1) := HC2.out i0 n0 1 (by omega)
        have d02 : w.cell? ⟨b2, o2 + i0 * 3 + 2, none⟩ = some (.int .i64 (l.getD i0 default).f2) := HC2.out i0 n0 2 (by omega)
        obtain ⟨i1, h1, n1⟩ := HFVH.out.ix 1 (by omega)
        have m1 : (i1 : Int) < (n : Int) := by omega
        have c1 : w.cell? ⟨b1, o1 + 1, none⟩ = some (.int .i64 (i1 : Int)) := (HC1.out 1 (by omega) 0 (by omega)).trans (by rw [← h1]; simp [intAt])
        have d10 : w.cell? ⟨b2, o2 + i1 * 3, none⟩ = some (.int .i64 (l.getD i1 default).f0) := HC2.out i1 n1 0 (by omega)
        have d11 : w.cell? ⟨b2, o2 + i1 * 3 + 1, none⟩ = some (.int .i64 (l.getD i1 default).f1) := HC2.out i1 n1 1 (by omega)
        have d12 : w.cell? ⟨b2, o2 + i1 * 3 + 2, none⟩ = some (.int .i64 (l.getD i1 default).f2) := HC2.out i1 n1 2 (by omega)
        obtain ⟨i2, h2, n2⟩ := HFVH.out.ix 2 (by omega)
        have m2 : (i2 : Int) < (n : Int) := by omega
        have c2 : w.cell? ⟨b1, o1 + 2, none⟩ = some (.int .i64 (i2 : Int)) := (HC1.out 2 (by omega) 0 (by omega)).trans (by rw [← h2]; simp [intAt])
        have d20 : w.cell? ⟨b2, o2 + i2 * 3, none⟩ = some (.int .i64 (l.getD i2 default).f0) := HC2.out i2 n2 0 (by omega)
        have d21 : w.cell? ⟨b2, o2 + i2 * 3 + 1, none⟩ = some (.int .i64 (l.getD i2 default).f1) := HC2.out i2 n2 1 (by omega)
        have d22 : w.cell? ⟨b2, o2 + i2 * 3 + 2, none⟩ = some (.int .i64 (l.getD i2 default).f2) := HC2.out i2 n2 2 (by omega)
        obtain ⟨i3, h3, n3⟩ := HFVH.out.ix 3 (by omega)
        have m3 : (i3 : Int) < (n : Int) := by omega
        have c3 : w.cell? ⟨b1, o1 + 3, none⟩ = some (.int .i64 (i3 : Int)) := (HC1.out 3 (by omega) 0 (by omega)).trans (by rw [← h3]; simp [intAt])
        have d30 : w.cell? ⟨b2, o2 + i3 * 3, none⟩ = some (.int .i64 (l.getD i3 default).f0) := HC2.out i3 n3 0 (by omega)
        have d31 : w.cell? ⟨b2, o2 + i3 * 3 + 1, none⟩ = some (.int .i64 (l.getD i3 default).f1) := HC2.out i3 n3 1 (by omega)
        have d32 : w.cell? ⟨b2, o2 + i3 * 3 + 2, none⟩ = some (.int .i64 (l.getD i3 default).f2) := HC2.out i3 n3 2 (by omega)
        have HQ2 := Lib.hid (show quadOf l f = ⟨l.getD i0 default, l.getD i1 default, l.getD i3 default, l.getD i2 default⟩ by
          unfold quadOf
          rw [h0, h1, h2, h3]
          simp only [Int.toNat_natCast])
        clear h0 h1 h2 h3
        generalize l.getD i0 default = w0' at *
        generalize l.getD i1 default = w1' at *
        generalize l.getD i2 default = w2' at *
        generalize l.getD i3 default = w3' at *
        rw [HQ2.out] at HST
        clear HQ2
        obtain ⟨x0, x1, x2⟩ := w0'
        obtain ⟨x3, x4, x5⟩ := w1'
        obtain ⟨x6, x7, x8⟩ := w2'
        obtain ⟨x9, x10, x11⟩ := w3'
        dsimp only [QuadD.cells] at HST
        dsimp only at d00 d01 d02 d10 d11 d12 d20 d21 d22 d30 d31 d32
        generalize flat 12 k (quadAt l s) = xs at *
        go_wp2
        have HOWN2 := HOWN.out
        rw [show w.heap.size + 1 = (w.alloc (.cells #[.slice (some ⟨b2, o2, none⟩) n c, .slice (some ⟨b, o, none⟩) m c'] 30)).heap.size by simp] at HOWN2
        refine region_app 31 78 12 _ k xs [.int .i64 x0, .int .i64 x1, .int .i64 x2, .int .i64 x3, .int .i64 x4, .int .i64 x5, .int .i64 x9, .int .i64 x10, .int .i64 x11, .int .i64 x6, .int .i64 x7, .int .i64 x8] (by kernel_rfl) (by kernel_rfl) HOWN2 ?_
        clear HOWN2
        simp only [List.take_succ_cons, List.take_zero, List.drop_succ_cons, List.drop_zero]
        repeat (refine headS_step (fun K hK => ?_); go_simp; refine hK _ ?_; clear hK K)
        refine headS_nil ?_
        refine tail_app (t := 47) _ _ (by go_simp) (fun w => by go_simp) (fun b => by go_simp) rfl Try.underlying47 hi hz0 hz1 hz2 rfl (by decide) (fun b => by first | rfl | go_simp) (fun b => by first | rfl | go_simp) rfl ?h1 (by simp only [maxLen]; omega) (by omega) (fun b v' => ?hr)
        case h1 =>
          intro u hu
          simp only [List.mem_cons, List.not_mem_nil, or_false] at hu
          rcases hu with rfl | rfl | rfl | rfl | rfl | rfl | rfl | rfl | rfl | rfl | rfl | rfl <;> rfl
        refine app_quiet (u := v') (by go_simp) (fun w => by go_simp) ?_
        refine app_done (fun X1 d1 hown1 => ?_)
        rw [World.size_alloc] at hown1
        simp only [Act.put, List.setIfInBounds_toArray, List.set_cons_zero, List.set_cons_succ]
        go_wp2
        refine ⟨⟨k + 1, X1, d1, by omega, rfl, rfl, ?_⟩, by simp only [intOf]; omega⟩
        rw [HST.out]
        exact hown1
      · have hk1 : ¬ (k : Int) < (m : Int) := by omega
        obtain rfl : k = m := by omega
        go_wp2
        go_ret
        obtain ⟨ao, co, rfl, how⟩ := ow_of_ownsRow HOWN.out (flat_get (fun _ _ => rfl))
        rw [quadsTo_len]
        exact ⟨ao, co, rfl, (how.wide (Nat.le_succ _) (Nat.le_refl _)).congr (fun i hi => (quadsTo_at hi).symm), (by repeat (first | exact Below.refl _ _ | refine Below.drew ?_ | refine Below.alloc ?_ (by first | exact Nat.le_refl _ | (simp; done) | (simp; omega) | omega) _ | refine Below.more ?_ (by first | exact Nat.le_refl _ | (simp; done) | (simp; omega) | omega) _ _ | refine Below.setCell ?_ (by first | exact Nat.le_refl _ | (simp; done) | (simp; omega) | omega) _ | assumption))⟩
set_option maxRecDepth 100000 in
set_option maxHeartbeats 4000000 in
theorem spec_FacePatches_c (v : Value) (p : MeshD) (w : World) (hr : MeshR w v p) (hs : MeshSz 1048576 p) :
    Calls Try.prog 32 #[v] w (Gives w 12 (fpatchesD p).length (QuadD.at (fpatchesD p))) := by
  have HM := Lib.hid hr
  have HS := Lib.hid hs
  obtain ⟨a, c, a', c', rfl, h1, ⟨A, K, h2, h3, h4⟩⟩ := hr
  obtain ⟨hs1, hs2, hs3⟩ := hs
  clear h4 hs3
  cases hok : meshOkB p
  · have HE := Lib.hid (show fpatchesD p = [] by simp [fpatchesD, hok])
    have HOK := Lib.hid hok
    clear hok h1 h2 h3
    go_enter Try.func32, Try.ntmps32
    go_wp2_with (go_at_call 15; refine (spec_IsValidMesh_c _ p _ (HM.out.below (by repeat (first | exact Below.refl _ _ | refine Below.drew ?_ | refine Below.alloc ?_ (by first | exact Nat.le_refl _ | (simp; done) | (simp; omega) | omega) _ | refine Below.more ?_ (by first | exact Nat.le_refl _ | (simp; done) | (simp; omega) | omega) _ _ | refine Below.setCell ?_ (by first | exact Nat.le_refl _ | (simp; done) | (simp; omega) | omega) _ | assumption))) HS.out).mono ?_; rw [HOK.out]; rintro e wn ⟨rfl, hbn⟩; obtain ⟨X, nX, rfl⟩ := Below.ext hbn; clear hbn)
    go_ret
    rw [HE.out]
    exact Gives.nil (by repeat (first | exact Below.refl _ _ | refine Below.drew ?_ | refine Below.alloc ?_ (by first | exact Nat.le_refl _ | (simp; done) | (simp; omega) | omega) _ | refine Below.more ?_ (by first | exact Nat.le_refl _ | (simp; done) | (simp; omega) | omega) _ _ | refine Below.setCell ?_ (by first | exact Nat.le_refl _ | (simp; done) | (simp; omega) | omega) _ | assumption))
  · obtain ⟨i0', hi, hz0, hz1, hz2⟩ := info_parts info_Quad
    have HE := Lib.hid (show fpatchesD p = quadsTo p.verts p.faces p.nF by simp [fpatchesD, hok])
    have HFA := Lib.hid (fun k hk => faceV_of (meshOkB_true.1 hok) (k := k) hk)
    have hm64 : p.nF ≤ 64 := (meshOkB_true.1 hok).2.1
    have HOK := Lib.hid hok
    have HVM := Lib.hid (fun (W : World) (hb : Below w.heap.size w W) => (show Calls Try.prog 15 #[.agg #[.slice a p.nV c, .slice a' p.nF c']] W (fun e w' => e = .returned (.bool true) ∧ Below W.heap.size W w') from (spec_IsValidMesh_c _ p W (HM.out.below hb) HS.out).mono fun e w' h => ⟨by rw [h.1, HOK.out], h.2⟩))
    clear hok HM HS HOK
    rw [HE.out]
    clear HE
    generalize p.nV = n at *
    generalize p.nF = m at *
    generalize p.verts = l at *
    generalize p.faces = s at *
    have HV := Lib.hid h1
    have HF := Lib.hid h2
    have HQ := Lib.hid h3
    clear h1 h2 h3
    go_enter Try.func32, Try.ntmps32
    go_wp2_with (go_at_call 15; go_loud (refine (HVM.out _ (by repeat (first | exact Below.refl _ _ | refine Below.drew ?_ | refine Below.alloc ?_ (by first | exact Nat.le_refl _ | (simp; done) | (simp; omega) | omega) _ | refine Below.more ?_ (by first | exact Nat.le_refl _ | (simp; done) | (simp; omega) | omega) _ _ | refine Below.setCell ?_ (by first | exact Nat.le_refl _ | (simp; done) | (simp; omega) | omega) _ | assumption))).mono ?_; rintro e wn ⟨rfl, hbn⟩; obtain ⟨X, nX, rfl⟩ := Below.ext hbn; clear hbn))
    go_loopw [3, 13] (fun out i wr => ∃ (k : Nat) (X : Array Obj) (d : Nat), k ≤ m ∧ i = .int .i64 k ∧ wr = more (w.alloc (.cells #[.slice a n c, .slice a' m c'] 30)) X d ∧ (more (w.alloc (.cells #[.slice a n c, .slice a' m c'] 30)) X d).ownsRow (w.heap.size + 1) 78 12 out k (flat 12 k (quadAt l s))) (fun _ i _ => m - (intOf i).toNat)
    case atStart =>
      obtain ⟨X', d', e⟩ := Below.ext (w := w.alloc (.cells #[.slice a n c, .slice a' m c'] 30)) (w' := more ((w.alloc (.cells #[.slice a n c, .slice a' m c'] 30)).alloc (.cells #[] 78)) X nX) (by repeat (first | exact Below.refl _ _ | refine Below.drew ?_ | refine Below.alloc ?_ (by first | exact Nat.le_refl _ | (simp; done) | (simp; omega) | omega) _ | refine Below.more ?_ (by first | exact Nat.le_refl _ | (simp; done) | (simp; omega) | omega) _ _ | refine Below.setCell ?_ (by first | exact Nat.le_refl _ | (simp; done) | (simp; omega) | omega) _ | assumption))
      refine ⟨0, X', d', by omega, rfl, e, ?_⟩
      rw [← e]
      have hz := own_more (World.ownsRow_made (e := 78) (size := 12) (base := w.heap.size + 1) (w.alloc (.cells #[.slice a n c, .slice a' m c'] 30)) #[] 0 (by simp) (by decide) (by simp)) X nX; simpa [flat] using hz
    case round =>
      obtain ⟨k, X, d, hk, rfl, rfl, hown⟩ := hrel
      have HOWN := Lib.hid hown
      clear hown
      by_cases hlt : k < m
      · have hk1 : (k : Int) < (m : Int) := by omega
        obtain ⟨b, o, e, hb, hc⟩ := HF.out (by omega)
        subst e
        have cf : w.cell? ⟨b, o + k, none⟩ = some (.slice (A k) (faceAt s k).length (K k)) := by have := hc k hlt 0 (by omega); rw [Nat.mul_one, Nat.add_zero] at this; exact this
        clear hc
        have hsl : Sl w (A k) 1 (faceAt s k).length (intAt (faceAt s k)) := HQ.out k hlt
        have HFV := HFA.out k hlt
        have HST := Lib.hid (show flat 12 (k + 1) (quadAt l s) = flat 12 k (quadAt l s) ++ (quadOf l (faceAt s k)).cells from flat_succ 12 k _)
        generalize A k = ak at *
        generalize K k = kk at *
        generalize faceAt s k = f at *
        rw [HFV.len] at cf hsl
        obtain ⟨b1, o1, e, hb1, hc1⟩ := hsl (by omega)
        subst e
        obtain ⟨b2, o2, e, hb2, hc2⟩ : ∃ b2 o2, a = some ⟨b2, o2, none⟩ ∧ b2 < w.heap.size ∧ ∀ i, i < n → ∀ j, j < 3 → w.cell? ⟨b2, o2 + i * 3 + j, none⟩ = (VecD.at l i)[j]? := HV.out (by obtain ⟨i, _, h⟩ := HFV.ix 0 (by omega); omega)
        subst e
        have HFVH := Lib.hid HFV
        have HC1 := Lib.hid hc1
        have HC2 := Lib.hid hc2
        clear HFV hc1 hc2
        obtain ⟨i0, h0, n0⟩ := HFVH.out.ix 0 (by omega)
        have m0 : (i0 : Int) < (n : Int) := by omega
        have c0 : w.cell? ⟨b1, o1, none⟩ = some (.int .i64 (i0 : Int)) := (HC1.out 0 (by omega) 0 (by omega)).trans (by rw [← h0]; simp [intAt])
        have d00 : w.cell? ⟨b2, o2 + i0 * 3, none⟩ = some (.int .i64 (l.getD i0 default).f0) := HC2.out i0 n0 0 (by omega)
        have d01 : w.cell? ⟨b2, o2 + i0 * 3 + 1, none⟩ = some (.int .i64 (l.getD i0 default).f1) := HC2.out i0 n0 1 (by omega)
        have d02 : w.cell? ⟨b2, o2 + i0 * 3 + 2, none⟩ = some (.int .i64 (l.getD i0 default).f2) := HC2.out i0 n0 2 (by omega)
        obtain ⟨i1, h1, n1⟩ := HFVH.out.ix 1 (by omega)
        have m1 : (i1 : Int) < (n : Int) := by omega
        have c1 : w.cell? ⟨b1, o1 + 1, none⟩ = some (.int .i64 (i1 : Int)) := (HC1.out 1 (by omega) 0 (by omega)).trans (by rw [← h1]; simp [intAt])
        have d10 : w.cell? ⟨b2, o2 + i1 * 3, none⟩ = some (.int .i64 (l.getD i1 default).f0) := HC2.out i1 n1 0 (by omega)
        have d11 : w.cell? ⟨b2, o2 + i1 * 3 + 1, none⟩ = some (.int .i64 (l.getD i1 default).f1) := HC2.out i1 n1 1 (by omega)
        have d12 : w.cell? ⟨b2, o2 + i1 * 3 + 2, none⟩ = some (.int .i64 (l.getD i1 default).f2) := HC2.out i1 n1 2 (by omega)
        obtain ⟨i2, h2, n2⟩ := HFVH.out.ix 2 (by omega)
        have m2 : (i2 : Int) < (n : Int) := by omega
        have c2 : w.cell? ⟨b1, o1 + 2, none⟩ = some (.int .i64 (i2 : Int)) := (HC1.out 2 (by omega) 0 (by omega)).trans (by rw [← h2]; simp [intAt])
        have d20 : w.cell? ⟨b2, o2 + i2 * 3, none⟩ = some (.int .i64 (l.getD i2 default).f0) := HC2.out i2 n2 0 (by omega)
        have d21 : w.cell? ⟨b2, o2 + i2 * 3 + 1, none⟩ = some (.int .i64 (l.getD i2 default).f1) := HC2.out i2 n2 1 (by omega)
        have d22 : w.cell? ⟨b2, o2 + i2 * 3 + 2, none⟩ = some (.int .i64 (l.getD i2 default).f2) := HC2.out i2 n2 2 (by omega)
        obtain ⟨i3, h3, n3⟩ := HFVH.out.ix 3 (by omega)
        have m3 : (i3 : Int) < (n : Int) := by omega
        have c3 : w.cell? ⟨b1, o1 + 3, none⟩ = some (.int .i64 (i3 : Int)) := (HC1.out 3 (by omega) 0 (by omega)).trans (by rw [← h3]; simp [intAt])
        have d30 : w.cell? ⟨b2, o2 + i3 * 3, none⟩ = some (.int .i64 (l.getD i3 default).f0) := HC2.out i3 n3 0 (by omega)
        have d31 : w.cell? ⟨b2, o2 + i3 * 3 + 1, none⟩ = some (.int .i64 (l.getD i3 default).f1) := HC2.out i3 n3 1 (by omega)
        have d32 : w.cell? ⟨b2, o2 + i3 * 3 + 2, none⟩ = some (.int .i64 (l.getD i3 default).f2) := HC2.out i3 n3 2 (by omega)
        have HQ2 := Lib.hid (show quadOf l f = ⟨l.getD i0 default, l.getD i1 default, l.getD i3 default, l.getD i2 default⟩ by
          unfold quadOf
          rw [h0, h1, h2, h3]
          simp only [Int.toNat_natCast])
        clear h0 h1 h2 h3
        generalize l.getD i0 default = w0' at *
        generalize l.getD i1 default = w1' at *
        generalize l.getD i2 default = w2' at *
        generalize l.getD i3 default = w3' at *
        rw [HQ2.out] at HST
        clear HQ2
        obtain ⟨x0, x1, x2⟩ := w0'
        obtain ⟨x3, x4, x5⟩ := w1'
        obtain ⟨x6, x7, x8⟩ := w2'
        obtain ⟨x9, x10, x11⟩ := w3'
        dsimp only [QuadD.cells] at HST
        dsimp only at d00 d01 d02 d10 d11 d12 d20 d21 d22 d30 d31 d32
        generalize flat 12 k (quadAt l s) = xs at *
        go_wp2
        have HOWN2 := HOWN.out
        rw [show w.heap.size + 1 = (w.alloc (.cells #[.slice (some ⟨b2, o2, none⟩) n c, .slice (some ⟨b, o, none⟩) m c'] 30)).heap.size by simp] at HOWN2
        refine region_app 31 78 12 _ k xs [.int .i64 x0, .int .i64 x1, .int .i64 x2, .int .i64 x3, .int .i64 x4, .int .i64 x5, .int .i64 x9, .int .i64 x10, .int .i64 x11, .int .i64 x6, .int .i64 x7, .int .i64 x8] (by kernel_rfl) (by kernel_rfl) HOWN2 ?_
        clear HOWN2
        simp only [List.take_succ_cons, List.take_zero, List.drop_succ_cons, List.drop_zero]
        repeat (refine headS_step (fun K hK => ?_); go_simp; refine hK _ ?_; clear hK K)
        refine headS_nil ?_
        refine tail_app (t := 47) _ _ (by go_simp) (fun w => by go_simp) (fun b => by go_simp) rfl Try.underlying47 hi hz0 hz1 hz2 rfl (by decide) (fun b => by first | rfl | go_simp) (fun b => by first | rfl | go_simp) rfl ?h1 (by simp only [maxLen]; omega) (by omega) (fun b v' => ?hr)
        case h1 =>
          intro u hu
          simp only [List.mem_cons, List.not_mem_nil, or_false] at hu
          rcases hu with rfl | rfl | rfl | rfl | rfl | rfl | rfl | rfl | rfl | rfl | rfl | rfl <;> rfl
        refine app_quiet (u := v') (by go_simp) (fun w => by go_simp) ?_
        refine app_done (fun X1 d1 hown1 => ?_)
        rw [World.size_alloc] at hown1
        simp only [Act.put, List.setIfInBounds_toArray, List.set_cons_zero, List.set_cons_succ]
        go_wp2
        refine ⟨⟨k + 1, X1, d1, by omega, rfl, rfl, ?_⟩, by simp only [intOf]; omega⟩
        rw [HST.out]
        exact hown1
      · have hk1 : ¬ (k : Int) < (m : Int) := by omega
        obtain rfl : k = m := by omega
        go_wp2
        go_ret
        obtain ⟨ao, co, rfl, how⟩ := ow_of_ownsRow HOWN.out (flat_get (fun _ _ => rfl))
        rw [quadsTo_len]
        exact ⟨ao, co, rfl, (how.wide (Nat.le_succ _) (Nat.le_refl _)).congr (fun i hi => (quadsTo_at hi).symm), (by repeat (first | exact Below.refl _ _ | refine Below.drew ?_ | refine Below.alloc ?_ (by first | exact Nat.le_refl _ | (simp; done) | (simp; omega) | omega) _ | refine Below.more ?_ (by first | exact Nat.le_refl _ | (simp; done) | (simp; omega) | omega) _ _ | refine Below.setCell ?_ (by first | exact Nat.le_refl _ | (simp; done) | (simp; omega) | omega) _ | assumption))⟩
end Go.Proofs.Ytbmhehjllchpoaa
