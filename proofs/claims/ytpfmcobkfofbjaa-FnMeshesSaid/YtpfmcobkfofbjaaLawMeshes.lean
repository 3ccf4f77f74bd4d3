/- The law of meshes, with SPatch, FacePatches, MeshesM, Stage4 ahead of it. -/
import Derived.Test.YtpfmcobkfofbjaaLawHull
namespace Go.Proofs.Ytpfmcobkfofbjaa
open Go Go.RowKit
structure QuadD where
  a : VecD
  b : VecD
  c : VecD
  d : VecD
instance : Inhabited QuadD := ⟨⟨default, default, default, default⟩⟩
@[reducible] def QuadD.cells (x : QuadD) : List Value := [.int .i64 x.a.f0, .int .i64 x.a.f1, .int .i64 x.a.f2, .int .i64 x.b.f0, .int .i64 x.b.f1, .int .i64 x.b.f2, .int .i64 x.c.f0, .int .i64 x.c.f1, .int .i64 x.c.f2, .int .i64 x.d.f0, .int .i64 x.d.f1, .int .i64 x.d.f2]
def QuadD.at (l : List QuadD) (i : Nat) : List Value := (l.getD i default).cells
end Go.Proofs.Ytpfmcobkfofbjaa
namespace Go.Proofs.Ytpfmcobkfofbjaa
open Go Go.RowKit
def quadOf (l : List VecD) (f : List Int) : QuadD := ⟨l.getD (f.getD 0 0).toNat default, l.getD (f.getD 1 0).toNat default, l.getD (f.getD 3 0).toNat default, l.getD (f.getD 2 0).toNat default⟩
def quadsTo (l : List VecD) (s : List (List Int)) (k : Nat) : List QuadD := (List.range k).map fun i => quadOf l (faceAt s i)
theorem quadsTo_len (l : List VecD) (s : List (List Int)) (k : Nat) : (quadsTo l s k).length = k := by simp [quadsTo]
theorem quadsTo_at {l : List VecD} {s : List (List Int)} {k i : Nat} (h : i < k) : QuadD.at (quadsTo l s k) i = (quadOf l (faceAt s i)).cells := by
  unfold QuadD.at quadsTo
  rw [List.getD_eq_getElem?_getD, List.getElem?_map, List.getElem?_range h]; rfl
noncomputable def fpatchesD (p : MeshD) : List QuadD := if meshOkB p then quadsTo p.verts p.faces p.nF else []
theorem fpatchesD_len (p : MeshD) : (fpatchesD p).length ≤ 1048576 := by
  unfold fpatchesD
  split
  · rw [quadsTo_len]
    have h := (meshOkB_true.1 (by assumption)).2.1
    omega
  · simp
def quadAt (l : List VecD) (s : List (List Int)) (i : Nat) : List Value := (quadOf l (faceAt s i)).cells
theorem info_Quad : (Try.prog.info? 72).map (fun i => (i.zero, i.size, i.bytes)) = some (some (.agg #[.int .i64 0, .int .i64 0, .int .i64 0, .int .i64 0, .int .i64 0, .int .i64 0, .int .i64 0, .int .i64 0, .int .i64 0, .int .i64 0, .int .i64 0, .int .i64 0]), 12, 96) := by kernel_rfl
set_option maxRecDepth 100000 in
set_option maxHeartbeats 4000000 in
theorem impl_FacePatches_c (v : Value) (p : MeshD) (w : World) (hr : MeshR w v p) (hs : MeshSz 1048576 p) :
    Calls Try.prog 14 #[v] w (Gives w 12 (fpatchesD p).length (QuadD.at (fpatchesD p))) := by
  have HM := Lib.hid hr
  have HS := Lib.hid hs
  obtain ⟨a, c, a', c', rfl, h1, ⟨A, K, h2, h3, h4⟩⟩ := hr
  obtain ⟨hs1, hs2, hs3⟩ := hs
  clear h4 hs3
  cases hok : meshOkB p
  · have HE := Lib.hid (show fpatchesD p = [] by simp [fpatchesD, hok])
    have HOK := Lib.hid hok
    clear hok h1 h2 h3
    go_enter Try.func14, Try.ntmps14
    go_wp2_with (go_at_call 10; refine (impl_IsValidMesh_c _ p _ (HM.out.below (by repeat (first | exact Below.refl _ _ | refine Below.drew ?_ | refine Below.alloc ?_ (by first | exact Nat.le_refl _ | (simp; done) | (simp; omega) | omega) _ | refine Below.more ?_ (by first | exact Nat.le_refl _ | (simp; done) | (simp; omega) | omega) _ _ | refine Below.setCell ?_ (by first | exact Nat.le_refl _ | (simp; done) | (simp; omega) | omega) _ | assumption))) HS.out).mono ?_; rw [HOK.out]; rintro e wn ⟨rfl, hbn⟩; obtain ⟨X, nX, rfl⟩ := Below.ext hbn; clear hbn)
    go_ret
    rw [HE.out]
    exact Gives.nil (by repeat (first | exact Below.refl _ _ | refine Below.drew ?_ | refine Below.alloc ?_ (by first | exact Nat.le_refl _ | (simp; done) | (simp; omega) | omega) _ | refine Below.more ?_ (by first | exact Nat.le_refl _ | (simp; done) | (simp; omega) | omega) _ _ | refine Below.setCell ?_ (by first | exact Nat.le_refl _ | (simp; done) | (simp; omega) | omega) _ | assumption))
  · obtain ⟨i0', hi, hz0, hz1, hz2⟩ := info_parts info_Quad
    have HE := Lib.hid (show fpatchesD p = quadsTo p.verts p.faces p.nF by simp [fpatchesD, hok])
    have HFA := Lib.hid (fun k hk => faceV_of (meshOkB_true.1 hok) (k := k) hk)
    have hm64 : p.nF ≤ 64 := (meshOkB_true.1 hok).2.1
    have HOK := Lib.hid hok
    have HVM := Lib.hid (fun (W : World) (hb : Below w.heap.size w W) => (show Calls Try.prog 10 #[.agg #[.slice a p.nV c, .slice a' p.nF c']] W (fun e w' => e = .returned (.bool true) ∧ Below W.heap.size W w') from (impl_IsValidMesh_c _ p W (HM.out.below hb) HS.out).mono fun e w' h => ⟨by rw [h.1, HOK.out], h.2⟩))
    clear hok HM HS HOK
    rw [HE.out]
    clear HE
    generalize p.nV = n at *
    generalize p.nF = m at *
    generalize p.verts = l at *
    generalize p.faces = s at *
    have HV := Lib.hid h1
    have HF := Lib.hid h2
    have HQ := Lib.hid h3
    clear h1 h2 h3
    go_enter Try.func14, Try.ntmps14
    go_wp2_with (go_at_call 10; go_loud (refine (HVM.out _ (by repeat (first | exact Below.refl _ _ | refine Below.drew ?_ | refine Below.alloc ?_ (by first | exact Nat.le_refl _ | (simp; done) | (simp; omega) | omega) _ | refine Below.more ?_ (by first | exact Nat.le_refl _ | (simp; done) | (simp; omega) | omega) _ _ | refine Below.setCell ?_ (by first | exact Nat.le_refl _ | (simp; done) | (simp; omega) | omega) _ | assumption))).mono ?_; rintro e wn ⟨rfl, hbn⟩; obtain ⟨X, nX, rfl⟩ := Below.ext hbn; clear hbn))
    go_loopw [3, 13] (fun out i wr => ∃ (k : Nat) (X : Array Obj) (d : Nat), k ≤ m ∧ i = .int .i64 k ∧ wr = more (w.alloc (.cells #[.slice a n c, .slice a' m c'] 26)) X d ∧ (more (w.alloc (.cells #[.slice a n c, .slice a' m c'] 26)) X d).ownsRow (w.heap.size + 1) 72 12 out k (flat 12 k (quadAt l s))) (fun _ i _ => m - (intOf i).toNat)
    case atStart =>
      obtain ⟨X', d', e⟩ := Below.ext (w := w.alloc (.cells #[.slice a n c, .slice a' m c'] 26)) (w' := (more (w.alloc (.cells #[.slice a n c, .slice a' m c'] 26)) X nX).alloc (.cells #[] 72)) (by repeat (first | exact Below.refl _ _ | refine Below.drew ?_ | refine Below.alloc ?_ (by first | exact Nat.le_refl _ | (simp; done) | (simp; omega) | omega) _ | refine Below.more ?_ (by first | exact Nat.le_refl _ | (simp; done) | (simp; omega) | omega) _ _ | refine Below.setCell ?_ (by first | exact Nat.le_refl _ | (simp; done) | (simp; omega) | omega) _ | assumption))
      refine ⟨0, X', d', by omega, rfl, e, ?_⟩
      rw [← e]
      have hz := World.ownsRow_made (e := 72) (size := 12) (base := w.heap.size + 1) (more (w.alloc (.cells #[.slice a n c, .slice a' m c'] 26)) X nX) #[] 0 (by simp) (by decide) (by simp); simpa [flat] using hz
    case round =>
      obtain ⟨k, X, d, hk, rfl, rfl, hown⟩ := hrel
      have HOWN := Lib.hid hown
      clear hown
      by_cases hlt : k < m
      · have hk1 : (k : Int) < (m : Int) := by omega
        obtain ⟨b, o, e, hb, hc⟩ := HF.out (by omega)
        subst e
        have cf : w.cell? ⟨b, o + k, none⟩ = some (.slice (A k) (faceAt s k).length (K k)) := by have := hc k hlt 0 (by omega); rw [Nat.mul_one, Nat.add_zero] at this; exact this
        clear hc
        have hsl : Sl w (A k) 1 (faceAt s k).length (intAt (faceAt s k)) := HQ.out k hlt
        have HFV := HFA.out k hlt
        have HST := Lib.hid (show flat 12 (k + 1) (quadAt l s) = flat 12 k (quadAt l s) ++ (quadOf l (faceAt s k)).cells from flat_succ 12 k _)
        generalize A k = ak at *
        generalize K k = kk at *
        generalize faceAt s k = f at *
        rw [HFV.len] at cf hsl
        obtain ⟨b1, o1, e, hb1, hc1⟩ := hsl (by omega)
        subst e
        obtain ⟨b2, o2, e, hb2, hc2⟩ : ∃ b2 o2, a = some ⟨b2, o2, none⟩ ∧ b2 < w.heap.size ∧ ∀ i, i < n → ∀ j, j < 3 → w.cell? ⟨b2, o2 + i * 3 + j, none⟩ = (VecD.at l i)[j]? := HV.out (by obtain ⟨i, _, h⟩ := HFV.ix 0 (by omega); omega)
        subst e
        have HFVH := Lib.hid HFV
        have HC1 := Lib.hid hc1
        have HC2 := Lib.hid hc2
        clear HFV hc1 hc2
        obtain ⟨i0, h0, n0⟩ := HFVH.out.ix 0 (by omega)
        have m0 : (i0 : Int) < (n : Int) := by omega
        have c0 : w.cell? ⟨b1, o1, none⟩ = some (.int .i64 (i0 : Int)) := (HC1.out 0 (by omega) 0 (by omega)).trans (by rw [← h0]; simp [intAt])
        have d00 : w.cell? ⟨b2, o2 + i0 * 3, none⟩ = some (.int .i64 (l.getD i0 default).f0) := HC2.out i0 n0 0 (by omega)
        have d01 : w.cell? ⟨b2, o2 + i0 * 3 + 1, none⟩ = some (.int .i64 (l.getD i0 default).f1) := HC2.out i0 n0 1 (by omega)
        have d02 : w.cell? ⟨b2, o2 + i0 * 3 + 2, none⟩ = some (.int .i64 (l.getD i0 default).f2) := HC2.out i0 n0 2 (by omega)
        obtain ⟨i1, h1, n1⟩ := HFVH.out.ix 1 (by omega)
        have m1 : (i1 : Int) < (n : Int) := by omega
        have c1 : w.cell? ⟨b1, o1 + 1, none⟩ = some (.int .i64 (i1 : Int)) := (HC1.out 1 (by omega) 0 (by omega)).trans (by rw [← h1]; simp [intAt])
        have d10 : w.cell? ⟨b2, o2 + i1 * 3, none⟩ = some (.int .i64 (l.getD i1 default).f0) := HC2.out i1 n1 0 (by omega)
        have d11 : w.cell? ⟨b2, o2 + i1 * 3 + 1, none⟩ = some (.int .i64 (l.getD i1 default).f1) := HC2.out i1 n1 1 (by omega)
        have d12 : w.cell? ⟨b2, o2 + i1 * 3 + 2, none⟩ = some (.int .i64 (l.getD i1 default).f2) := HC2.out i1 n1 2 (by omega)
        obtain ⟨i2, h2, n2⟩ := HFVH.out.ix 2 (by omega)
        have m2 : (i2 : Int) < (n : Int) := by omega
        have c2 : w.cell? ⟨b1, o1 + 2, none⟩ = some (.int .i64 (i2 : Int)) := (HC1.out 2 (by omega) 0 (by omega)).trans (by rw [← h2]; simp [intAt])
        have d20 : w.cell? ⟨b2, o2 + i2 * 3, none⟩ = some (.int .i64 (l.getD i2 default).f0) := HC2.out i2 n2 0 (by omega)
        have d21 : w.cell? ⟨b2, o2 + i2 * 3 + 1, none⟩ = some (.int .i64 (l.getD i2 default).f1) := HC2.out i2 n2 1 (by omega)
        have d22 : w.cell? ⟨b2, o2 + i2 * 3 + 2, none⟩ = some (.int .i64 (l.getD i2 default).f2) := HC2.out i2 n2 2 (by omega)
        obtain ⟨i3, h3, n3⟩ := HFVH.out.ix 3 (by omega)
        have m3 : (i3 : Int) < (n : Int) := by omega
        have c3 : w.cell? ⟨b1, o1 + 3, none⟩ = some (.int .i64 (i3 : Int)) := (HC1.out 3 (by omega) 0 (by omega)).trans (by rw [← h3]; simp [intAt])
        have d30 : w.cell? ⟨b2, o2 + i3 * 3, none⟩ = some (.int .i64 (l.getD i3 default).f0) := HC2.out i3 n3 0 (by omega)
        have d31 : w.cell? ⟨b2, o2 + i3 * 3 + 1, none⟩ = some (.int .i64 (l.getD i3 default).f1) := HC2.out i3 n3 1 (by omega)
        have d32 : w.cell? ⟨b2, o2 + i3 * 3 + 2, none⟩ = some (.int .i64 (l.getD i3 default).f2) := HC2.out i3 n3 2 (by omega)
        have HQ2 := Lib.hid (show quadOf l f = ⟨l.getD i0 default, l.getD i1 default, l.getD i3 default, l.getD i2 default⟩ by
          unfold quadOf
          rw [h0, h1, h2, h3]
          simp only [Int.toNat_natCast])
        clear h0 h1 h2 h3
        generalize l.getD i0 default = w0' at *
        generalize l.getD i1 default = w1' at *
        generalize l.getD i2 default = w2' at *
        generalize l.getD i3 default = w3' at *
        rw [HQ2.out] at HST
        clear HQ2
        obtain ⟨x0, x1, x2⟩ := w0'
        obtain ⟨x3, x4, x5⟩ := w1'
        obtain ⟨x6, x7, x8⟩ := w2'
        obtain ⟨x9, x10, x11⟩ := w3'
        dsimp only [QuadD.cells] at HST
        dsimp only at d00 d01 d02 d10 d11 d12 d20 d21 d22 d30 d31 d32
        generalize flat 12 k (quadAt l s) = xs at *
        go_wp2
        have HOWN2 := HOWN.out
        rw [show w.heap.size + 1 = (w.alloc (.cells #[.slice (some ⟨b2, o2, none⟩) n c, .slice (some ⟨b, o, none⟩) m c'] 26)).heap.size by simp] at HOWN2
        refine region_app 31 72 12 _ k xs [.int .i64 x0, .int .i64 x1, .int .i64 x2, .int .i64 x3, .int .i64 x4, .int .i64 x5, .int .i64 x9, .int .i64 x10, .int .i64 x11, .int .i64 x6, .int .i64 x7, .int .i64 x8] (by kernel_rfl) (by kernel_rfl) HOWN2 ?_
        clear HOWN2
        simp only [List.take_succ_cons, List.take_zero, List.drop_succ_cons, List.drop_zero]
        repeat (refine headS_step (fun K hK => ?_); go_simp; refine hK _ ?_; clear hK K)
        refine headS_nil ?_
        refine tail_app (t := 41) _ _ (by go_simp) (fun w => by go_simp) (fun b => by go_simp) rfl Try.underlying41 hi hz0 hz1 hz2 rfl (by decide) (fun b => by first | rfl | go_simp) (fun b => by first | rfl | go_simp) rfl ?h1 (by simp only [maxLen]; omega) (by omega) (fun b v' => ?hr)
        case h1 =>
          intro u hu
          simp only [List.mem_cons, List.not_mem_nil, or_false] at hu
          rcases hu with rfl | rfl | rfl | rfl | rfl | rfl | rfl | rfl | rfl | rfl | rfl | rfl <;> rfl
        refine app_quiet (u := v') (by go_simp) (fun w => by go_simp) ?_
        refine app_done (fun X1 d1 hown1 => ?_)
        rw [World.size_alloc] at hown1
        simp only [Act.put, List.setIfInBounds_toArray, List.set_cons_zero, List.set_cons_succ]
        go_wp2
        refine ⟨⟨k + 1, X1, d1, by omega, rfl, rfl, ?_⟩, by simp only [intOf]; omega⟩
        rw [HST.out]
        exact hown1
      · have hk1 : ¬ (k : Int) < (m : Int) := by omega
        obtain rfl : k = m := by omega
        go_wp2
        go_ret
        obtain ⟨ao, co, rfl, how⟩ := ow_of_ownsRow HOWN.out (flat_get (fun _ _ => rfl))
        rw [quadsTo_len]
        exact ⟨ao, co, rfl, (how.wide (Nat.le_succ _) (Nat.le_refl _)).congr (fun i hi => (quadsTo_at hi).symm), (by repeat (first | exact Below.refl _ _ | refine Below.drew ?_ | refine Below.alloc ?_ (by first | exact Nat.le_refl _ | (simp; done) | (simp; omega) | omega) _ | refine Below.more ?_ (by first | exact Nat.le_refl _ | (simp; done) | (simp; omega) | omega) _ _ | refine Below.setCell ?_ (by first | exact Nat.le_refl _ | (simp; done) | (simp; omega) | omega) _ | assumption))⟩
end Go.Proofs.Ytpfmcobkfofbjaa
namespace Go.Proofs.Ytpfmcobkfofbjaa
open Go Go.RowKit
section
variable {p : MeshD}
theorem sub_ok (hd : DrawnT p) : meshOk (subD p) := by
  obtain ⟨hok, _⟩ := drawn_ok hd
  obtain ⟨E, ht, _, _, _, h6, h1, _⟩ := drawn_T hd
  obtain ⟨m, hm⟩ : ∃ m, p.nV = m + 1 := ⟨p.nV - 1, by omega⟩
  simp only [meshT, Bool.and_eq_true, decide_eq_true_eq] at ht
  obtain ⟨⟨⟨⟨_, he⟩, ht⟩, _⟩, _⟩ := ht
  obtain ⟨hf, hnd⟩ := topoT_ok ht
  have h80 := hok.2.2
  rw [subD_of hok]
  refine ⟨h80, by dsimp only; omega, fun i hi => ?_, ?_, hnd⟩
  · have hl := subVs_len p
    dsimp only at hi ⊢
    have hu : (subVs p).getD i default ∈ subVs p := by
      rw [List.getD_eq_getElem?_getD, List.getElem?_eq_getElem (by omega)]
      exact List.getElem_mem _
    have hb := drawn_hull hd hm hu
    generalize (subVs p).getD i default = u at *
    have ha := hb.a; have hbb := hb.b; have hc := hb.c
    have l0 := loN_bd (fun i => (p.verts.getD i default).f0) m
    have l1 := loN_bd (fun i => (p.verts.getD i default).f1) m
    have l2 := loN_bd (fun i => (p.verts.getD i default).f2) m
    have u0 := hiN_bd (fun i => (p.verts.getD i default).f0) m
    have u1 := hiN_bd (fun i => (p.verts.getD i default).f1) m
    have u2 := hiN_bd (fun i => (p.verts.getD i default).f2) m
    simp only [vecOkD, vecOk, Bool.and_eq_true, inB_true]
    omega
  · subst he
    exact hf
theorem sub_okB (hd : DrawnT p) : meshOkB (subD p) = true := meshOkB_true.2 (sub_ok hd)
theorem drawn_okB (hd : DrawnT p) : meshOkB p = true := meshOkB_true.2 (drawn_ok hd).1.1
theorem sub_edges (hd : DrawnT p) : (subD p).nV = p.nV + (edgesD p).length + p.nF ∧ (subD p).nF = 4 * p.nF := by
  rw [subD_of (drawn_ok hd).1, edgesD, if_pos (drawn_okB hd)]
  exact ⟨rfl, rfl⟩
theorem sub_euler (hd : DrawnT p) : eulerD (subD p) = eulerD p := by
  obtain ⟨E, ht, _⟩ := drawn_T hd
  simp only [meshT, Bool.and_eq_true, decide_eq_true_eq] at ht
  obtain ⟨⟨⟨_, he⟩, _⟩, hu⟩ := ht.1
  subst he
  rw [eulerD, eulerD, if_pos (drawn_okB hd), if_pos (sub_okB hd), subD_of (drawn_ok hd).1]
  exact hu
theorem sub_bnd (hd : DrawnT p) : (bndD (subD p)).length = 2 * (bndD p).length := by
  obtain ⟨E, ht, _⟩ := drawn_T hd
  simp only [meshT, Bool.and_eq_true, decide_eq_true_eq] at ht
  rw [bndD, bndD, if_pos (drawn_okB hd), if_pos (sub_okB hd), subD_of (drawn_ok hd).1]
  exact ht.2
theorem sub_closed (hd : DrawnT p) : closedD (subD p) = closedD p := by
  obtain ⟨E, _, _, _, h1, _⟩ := drawn_T hd
  rw [closedD, closedD, drawn_okB hd, sub_okB hd, sub_bnd hd, (sub_edges hd).2]
  have e1 : decide (0 < 4 * p.nF) = true := by simp; omega
  have e2 : decide (0 < p.nF) = true := by simp; omega
  rw [e1, e2]
  congr 1
  rw [decide_eq_decide]
  omega
theorem sub_patches (hd : DrawnT p) : (fpatchesD (subD p)).length = (subD p).nF := by
  rw [fpatchesD, if_pos (sub_okB hd), quadsTo_len]
theorem sub_sz (hd : DrawnT p) : MeshSz 1048576 (subD p) := by
  have h := sub_ok hd
  exact ⟨by have := h.1; omega, by have := h.2.1; omega, fun i hi => by have := (h.2.2.2.1 i hi).1; omega⟩
end
end Go.Proofs.Ytpfmcobkfofbjaa
namespace Go.Proofs.Ytpfmcobkfofbjaa
open Go Go.RowKit
section
variable {P : Program} {ops : Array Oper} {C : World → Prop} {Q : Exit → Act → World → Prop}
/-- The order: false a quiet step, true one that may come up alone. -/
def mix4 (ops : Array Oper) : List (Nat × Bool) → Array Bool → Bool
  | [], listed => decide (Region.ready .any ops listed = [])
  | (i, b) :: is, listed => (if b then decide (Region.ready .any ops listed = [i]) else ((Region.ready .any ops listed).contains i && Region.free .any ops listed i)) && mix4 ops is (listed.setIfInBounds i true)
def stage4 (ops : Array Oper) (is : List (Nat × Bool)) : Bool := Region.noSelect ops && decide (is.length = ops.size) && mix4 ops is (Array.replicate ops.size false)
def runC (P : Program) (ops : Array Oper) (C : World → Prop) (Q : Exit → Act → World → Prop) : List (Nat × Bool) → Act → Prop
  | [], a => ∀ w, C w → Q .normal a w
  | (i, b) :: is, a => ∃ o, ops[i]? = some o ∧ if b then GivesB P ops (fun (_ : Unit) w => C w) o () a (fun _ a' => runC P ops C Q is a')
      else if Region.wanted o (yielded ops a.tmps) then ∃ v, (∀ w, C w → o.quietAt P a (fun w' => Stays w w') w v) ∧ runC P ops C Q is (a.put o.dst v) else runC P ops C Q is (a.put o.dst undef)
theorem anyW_runC (hsel : Region.noSelect ops = true) (is : List (Nat × Bool)) : ∀ (listed : Array Bool) (a : Act), mix4 ops is listed = true → runC P ops C Q is a →
    anyW P .any ops C C (fun (_ : Unit) w => C w) Q (fun _ => true) 0 is.length () listed a := by
  induction is with
  | nil => intro listed a hB h; exact ⟨by simpa [mix4] using hB, h⟩
  | cons x is ih =>
    obtain ⟨i, b⟩ := x
    intro listed a hB h
    obtain ⟨o, h0, h⟩ := h
    simp only [mix4, Bool.and_eq_true] at hB
    cases b
    · simp only [Bool.false_eq_true, if_false, Bool.and_eq_true] at hB h
      obtain ⟨⟨hr, hfr⟩, hm⟩ := hB
      have hr' : i ∈ Region.ready .any ops listed := by simpa using hr
      by_cases hwt : Region.wanted o (yielded ops a.tmps) = true
      · rw [if_pos hwt] at h
        obtain ⟨v, hv, hrest⟩ := h
        exact anyW_first h0 (Region.noSelect_spec hsel) _ () listed a (Region.free_spec h0 hfr) hr' (.inr (.inl ⟨hwt, hv⟩)) (ih _ _ hm hrest)
      · rw [if_neg hwt] at h
        exact anyW_first h0 (Region.noSelect_spec hsel) _ () listed a (Region.free_spec h0 hfr) hr' (.inr (.inr ⟨by simpa using hwt, rfl⟩)) (ih _ _ hm h)
    · simp only [if_true, decide_eq_true_eq] at hB h
      have hr := hB.1
      refine ⟨fun h1 => (by rw [hr] at h1; cases h1), fun j hj => ?_⟩
      rw [hr] at hj
      obtain rfl : j = i := by simpa using hj
      exact ⟨o, h0, .inr ⟨h.1, fun w hw => (h.2 w hw).mono fun u w' ⟨s', hw', hk⟩ => ⟨s', hw', (fun q => by cases q), ih _ _ hB.2 hk⟩⟩⟩
theorem region_stage4 {id : Nat} {a : Act} {w : World} {l : Array Oper} (is : List (Nat × Bool)) (hm : P.follows .mixedOrders = true) (hB : stage4 l is = true) (hst : ∀ w w', C w → Below w.heap.size w w' → C w') (hc : C w)
    (h : runC P l C Q is a) : (Code.region id l true).wp P Q a w := by
  simp only [stage4, Bool.and_eq_true, decide_eq_true_eq] at hB
  obtain ⟨⟨hsel, hn⟩, hlex⟩ := hB
  refine wp_region_any hm ?_
  have H := anyW_runC (P := P) (C := C) (Q := Q) (ops := l) hsel is (Array.replicate l.size false) a hlex h
  rw [hn] at H
  exact wpAny_of_anyW (S := Unit) (Cl := fun _ w => C w) (fin := fun _ => true) (fun _ _ hf _ => by cases hf) (fun _ _ h => h) (fun _ w w' h hb => hst w w' h hb) _ _ _ a w.drew (hst w _ hc (Below.drew (Below.refl _ _))) H
theorem runC_quiet {a : Act} {o : Oper} {i : Nat} {is : List (Nat × Bool)} (ho : ops[i]? = some o)
    (h : ∀ K' : Act → Prop, (∀ a, runC P ops C Q is a → K' a) → if Region.wanted o (yielded ops a.tmps) then ∃ v, (∀ w, C w → o.quietAt P a (fun w' => Stays w w') w v) ∧ K' (a.put o.dst v) else K' (a.put o.dst undef)) : runC P ops C Q ((i, false) :: is) a :=
  ⟨o, ho, by rw [if_neg (by decide)]; exact h _ (fun _ h => h)⟩
theorem runC_step {a : Act} {o : Oper} {i : Nat} {is : List (Nat × Bool)} (ho : ops[i]? = some o) (hw : Region.wanted o (yielded ops a.tmps) = true)
    (h : ∀ K' : Act → Prop, (∀ a, runC P ops C Q is a → K' a) → ∀ w, C w → Oper.givesAt P a o (fun u w' => C w' ∧ K' (a.put o.dst u)) w) : runC P ops C Q ((i, true) :: is) a :=
  ⟨o, ho, by rw [if_pos rfl]; exact ⟨hw, fun w hc => (h _ (fun _ h => h) w hc).mono fun u w' ⟨h1, h2⟩ => ⟨(), h1, h2⟩⟩⟩
theorem runC_nil {a : Act} (h : ∀ w, C w → Q .normal a w) : runC P ops C Q [] a := h
end
end Go.Proofs.Ytpfmcobkfofbjaa
namespace Go.Proofs.Ytpfmcobkfofbjaa
open Go Go.RowKit
/-- Old memory is as it was, and a box of one's own. -/
def keepC (w2 : World) (B : Nat) (o : Obj) (w : World) : Prop := Below w2.heap.size w2 w ∧ w.heap[B]? = some o
theorem keepC_st {w2 : World} {B : Nat} {o : Obj} : ∀ w w', keepC w2 B o w → Below w.heap.size w w' → keepC w2 B o w' := fun _ _ h hb => ⟨h.1.trans (hb.mono h.1.size), heap_keep h.2 hb⟩
set_option maxRecDepth 100000 in
set_option maxHeartbeats 8000000 in
theorem law_Meshes {H : Type} {enc : TypeId × Value → H} {W : World} {base : Nat} {v0 : Value} {d0 : DataW H} {p0 : List MemPlace}
    (k0 : Value.okWide Try.prog W .any base 22 v0) (h0 : DataW.Trod enc Try.prog W 0 (fun _ => true) true 22 v0 d0 p0) :
    Calls Try.prog 4 #[v0] W fun e W' => e = .returned (.bool true) ∧ Below W.heap.size W W' := by
  obtain ⟨a, cap, C, n, rfl, HB, hn⟩ := open_bytes k0 h0
  clear k0 h0
  by_cases hbig : n ≤ 1048576
  · have hb1 : ¬ (n : Int) > 1048576 := by omega
    go_enter Try.func4, Try.ntmps4
    go_wp2_with fail
    refine (MakeMesh_c a n cap C _ HB.out hbig).mono ?_
    rintro e w1 ⟨v, p, rfl, hm, hd, ⟨va, vc, fa, fc, rfl, hc1, hc2⟩, B1⟩
    obtain ⟨E0, _, _, _, hF1, hF6, hV1, hV8⟩ := drawn_T hd
    have hE12 : (edgesD p).length ≤ 12 := by rw [edgesD, if_pos (drawn_okB hd)]; exact (drawn_ok hd).2
    have hb24 : (bndD p).length ≤ 24 := by rw [bndD, if_pos (drawn_okB hd)]; have := bndL_len p.faces p.nF; omega
    have hsd := impl_Subdivide_g (.agg #[.slice va p.nV vc, .slice fa p.nF fc]) p
    rw [show subB p = true by simp [subB, (drawn_ok hd).1]] at hsd
    have HSD := Lib.hid (fun W (hb : Below w1.heap.size w1 W) => hsd W (hm.below hb) (drawn_sz hd))
    have HED := Lib.hid (fun W (hb : Below w1.heap.size w1 W) => show Calls Try.prog 9 #[.agg #[.slice va p.nV vc, .slice fa p.nF fc]] W (fun e w' => ∃ a cap, e = .returned (.slice a (edgesD p).length cap) ∧ Below W.heap.size W w') from
      (impl_EdgesP_c _ p W (hm.below hb) (drawn_sz hd)).mono fun e w' ⟨a, cap, h1, _, h2⟩ => ⟨a, cap, h1, h2⟩)
    have HBM := Lib.hid (fun W (hb : Below w1.heap.size w1 W) => show Calls Try.prog 13 #[.agg #[.slice va p.nV vc, .slice fa p.nF fc]] W (fun e w' => ∃ a cap, e = .returned (.slice a (bndD p).length cap) ∧ Below W.heap.size W w') from
      (impl_BoundaryEdgesP_c _ p W (hm.below hb) (drawn_sz hd)).mono fun e w' ⟨a, cap, h1, _, h2⟩ => ⟨a, cap, h1, h2⟩)
    have HEM := Lib.hid (fun W (hb : Below w1.heap.size w1 W) => impl_EulerCharacteristic_c _ p W (hm.below hb) (drawn_sz hd))
    have HCM := Lib.hid (fun W (hb : Below w1.heap.size w1 W) => impl_IsClosed_c _ p W (hm.below hb) (drawn_sz hd))
    have HD := Lib.hid hd
    have HB1 := Lib.hid B1
    have hs1 := B1.size
    have HXX := Lib.hid (fun (w2 : World) (s : Value) (lo hi : Nat) (hx : MeshX w2 lo hi s (subD p) none) => show ∃ (sa sb : Option Addr) (sc sd : Nat), s = .agg #[.slice sa (p.nV + (edgesD p).length + p.nF) sc, .slice sb (4 * p.nF) sd] ∧ ∀ W, Below w2.heap.size w2 W →
        Calls Try.prog 10 #[s] W (fun e w' => e = .returned (.bool true) ∧ Below W.heap.size W w') ∧
        Calls Try.prog 11 #[s] W (fun e w' => e = .returned (.int .i64 (eulerD p)) ∧ Below W.heap.size W w') ∧
        Calls Try.prog 12 #[s] W (fun e w' => e = .returned (.bool (closedD p)) ∧ Below W.heap.size W w') ∧
        Calls Try.prog 13 #[s] W (fun e w' => ∃ a cap, e = .returned (.slice a (2 * (bndD p).length) cap) ∧ Below W.heap.size W w') ∧
        Calls Try.prog 14 #[s] W (fun e w' => ∃ a cap, e = .returned (.slice a (4 * p.nF) cap) ∧ Below W.heap.size W w') from by
      have hr := hx.r
      obtain ⟨sa, sc, sb, sd, e, _⟩ := hr
      rw [(sub_edges hd).1, (sub_edges hd).2] at e
      refine ⟨sa, sb, sc, sd, e, fun W hb => ⟨?_, ?_, ?_, ?_, ?_⟩⟩
      · have h := impl_IsValidMesh_c _ (subD p) W (hx.r.below hb) (sub_sz hd)
        rwa [sub_okB hd] at h
      · have h := impl_EulerCharacteristic_c _ (subD p) W (hx.r.below hb) (sub_sz hd)
        rwa [sub_euler hd] at h
      · have h := impl_IsClosed_c _ (subD p) W (hx.r.below hb) (sub_sz hd)
        rwa [sub_closed hd] at h
      · have h := impl_BoundaryEdgesP_c _ (subD p) W (hx.r.below hb) (sub_sz hd)
        rw [sub_bnd hd] at h
        exact h.mono fun e w' ⟨a, cap, h1, _, h2⟩ => ⟨a, cap, h1, h2⟩
      · have h := impl_FacePatches_c _ (subD p) W (hx.r.below hb) (sub_sz hd)
        rw [sub_patches hd, (sub_edges hd).2] at h
        exact h.mono fun e w' ⟨a, cap, h1, _, h2⟩ => ⟨a, cap, h1, h2⟩)
    clear hm hd B1 hc1 hc2 hsd
    generalize (edgesD p).length = E at *
    generalize (bndD p).length = bn at *
    generalize eulerD p = eu at *
    generalize closedD p = cl at *
    generalize p.nV = nV at *
    generalize p.nF = nF at *
    have w1a : IntKind.i64.wrap ((nV : Int) + (E : Int)) = (nV : Int) + (E : Int) := IntWalk.i64_in _ (by omega)
    have w1b : IntKind.i64.wrap ((nV : Int) + (E : Int) + (nF : Int)) = (nV : Int) + (E : Int) + (nF : Int) := IntWalk.i64_in _ (by omega)
    have w1c : IntKind.i64.wrap (4 * (nF : Int)) = 4 * (nF : Int) := IntWalk.i64_in _ (by omega)
    have w1d : IntKind.i64.wrap (2 * (bn : Int)) = 2 * (bn : Int) := IntWalk.i64_in _ (by omega)
    clear hF1 hF6 hV1 hV8 hE12 hb24
    go_wp2_with fail
    refine (HSD.out _ (by repeat (first | exact Below.refl _ _ | refine Below.drew ?_ | refine Below.alloc ?_ (by first | exact Nat.le_refl _ | (simp; done) | (simp; omega) | omega) _ | refine Below.more ?_ (by first | exact Nat.le_refl _ | (simp; done) | (simp; omega) | omega) _ _ | refine Below.setCell ?_ (by first | exact Nat.le_refl _ | (simp; done) | (simp; omega) | omega) _ | assumption))).mono ?_
    rintro e w2 ⟨s, rfl, hx, B2⟩
    obtain ⟨sa, sb, sc, sd, rfl, hxx⟩ := HXX.out _ _ _ _ hx
    have HX := Lib.hid hxx
    have HT := Lib.hid (heap_keep (heap_alloc_new w1 _) B2)
    have HB2 := Lib.hid ((show Below w1.heap.size w1 _ from (by repeat (first | exact Below.refl _ _ | refine Below.drew ?_ | refine Below.alloc ?_ (by first | exact Nat.le_refl _ | (simp; done) | (simp; omega) | omega) _ | refine Below.more ?_ (by first | exact Nat.le_refl _ | (simp; done) | (simp; omega) | omega) _ _ | refine Below.setCell ?_ (by first | exact Nat.le_refl _ | (simp; done) | (simp; omega) | omega) _ | assumption))).trans (B2.mono (by simp)))
    have hs2 := B2.size
    simp at hs2
    have hs2' : w1.heap.size < w2.heap.size := by omega
    clear hx hxx B2 HXX HSD
    go_wp2
    refine region_stage4 (C := keepC w2 w2.heap.size (.cells #[.slice sa (nV + E + nF) sc, .slice sb (4 * nF) sd] 26 (0, 0))) [(0, false), (1, false), (2, false), (3, false), (7, false), (8, false), (9, false), (4, true), (5, false), (6, false), (10, false), (11, false)] (by kernel_rfl) (by kernel_rfl) keepC_st ⟨(by repeat (first | exact Below.refl _ _ | refine Below.drew ?_ | refine Below.alloc ?_ (by first | exact Nat.le_refl _ | (simp; done) | (simp; omega) | omega) _ | refine Below.more ?_ (by first | exact Nat.le_refl _ | (simp; done) | (simp; omega) | omega) _ _ | refine Below.setCell ?_ (by first | exact Nat.le_refl _ | (simp; done) | (simp; omega) | omega) _ | assumption)), heap_at_new (by simp)⟩ ?_
    repeat (refine runC_quiet rfl (fun K hK => ?_); go_simp; refine ⟨_, fun zt hc => rfl, hK _ ?_⟩; clear hK K)
    refine runC_quiet rfl (fun K hK => ?_)
    go_simp
    refine ⟨.slice va nV vc, fun zt hc => (by have c := cell_at (j := 0) (heap_keep HT.out hc.1) rfl; simp [c, Result.andThen]), hK _ ?_⟩
    clear hK K
    repeat (refine runC_quiet rfl (fun K hK => ?_); go_simp; refine ⟨_, fun zt hc => rfl, hK _ ?_⟩; clear hK K)
    refine runC_quiet rfl (fun K hK => ?_)
    go_simp
    refine ⟨.agg #[.slice va nV vc, .slice fa nF fc], fun zt hc => (by have c := cell_at (j := 0) (heap_keep HT.out hc.1) rfl; have c' := cell_at (j := 1) (heap_keep HT.out hc.1) rfl; simp [c, c', Result.andThen]), hK _ ?_⟩
    clear hK K
    repeat (refine runC_quiet rfl (fun K hK => ?_); go_simp; refine ⟨_, fun zt hc => rfl, hK _ ?_⟩; clear hK K)
    refine runC_quiet rfl (fun K hK => ?_)
    go_simp
    refine ⟨.slice fa nF fc, fun zt hc => (by have c := cell_at (j := 1) (heap_keep HT.out hc.1) rfl; simp [c, Result.andThen]), hK _ ?_⟩
    clear hK K
    repeat (refine runC_quiet rfl (fun K hK => ?_); go_simp; refine ⟨_, fun zt hc => rfl, hK _ ?_⟩; clear hK K)
    refine runC_step rfl (by rfl) (fun K hK wa hc => ?_)
    unfold Oper.givesAt
    go_simp
    refine (HED.out wa (HB2.out.trans (hc.1.mono (Nat.le_of_lt hs2')))).mono ?_
    rintro e wz ⟨a1, c1, rfl, hb⟩
    refine ⟨_, rfl, keepC_st _ _ hc hb, hK _ ?_⟩
    clear hK K hc hb wa wz
    repeat (refine runC_quiet rfl (fun K hK => ?_); go_simp; refine ⟨_, fun zt hc => rfl, hK _ ?_⟩; clear hK K)
    refine runC_nil (fun w5 hc5 => ?_)
    try simp only [Act.put, List.setIfInBounds_toArray, List.set_cons_zero, List.set_cons_succ]
    have HC5 := Lib.hid hc5
    clear hc5
    go_wp2
    refine region_stage4 (C := keepC w2 w2.heap.size (.cells #[.slice sa (nV + E + nF) sc, .slice sb (4 * nF) sd] 26 (0, 0))) [(0, false), (1, false), (2, false), (3, false), (4, false), (5, false), (6, false), (7, false), (8, false), (9, false), (10, false), (11, false), (12, false), (13, false), (14, false), (15, false), (16, false), (17, false), (18, false), (19, false), (20, false), (21, false), (22, false), (23, false), (24, false), (25, false), (26, false), (27, false), (28, false), (29, false), (30, false), (31, false), (32, false), (33, false), (34, false), (37, false), (35, true), (36, false), (38, true), (39, false), (40, false), (41, false), (42, false), (43, false), (44, false), (47, false), (48, false), (49, false), (45, true), (46, false), (50, false), (51, false), (52, false)] (by kernel_rfl) (by kernel_rfl) keepC_st HC5.out ?_
    refine runC_quiet rfl (fun K hK => ?_)
    go_simp
    refine ⟨.agg #[.slice sa (nV + E + nF) sc, .slice sb (4 * nF) sd], fun zt hc => (by have c := cell_at (j := 0) hc.2 rfl; have c' := cell_at (j := 1) hc.2 rfl; simp [c, c', Result.andThen]), hK _ ?_⟩
    clear hK K
    refine runC_quiet rfl (fun K hK => ?_)
    go_simp
    refine ⟨_, fun zt hc => calls_stays ((HX.out zt hc.1).1), hK _ ?_⟩
    clear hK K
    repeat (refine runC_quiet rfl (fun K hK => ?_); go_simp; refine ⟨_, fun zt hc => rfl, hK _ ?_⟩; clear hK K)
    refine runC_quiet rfl (fun K hK => ?_)
    go_simp
    refine ⟨.slice sa (nV + E + nF) sc, fun zt hc => (by have c := cell_at (j := 0) hc.2 rfl; simp [c, Result.andThen]), hK _ ?_⟩
    clear hK K
    repeat (refine runC_quiet rfl (fun K hK => ?_); go_simp; refine ⟨_, fun zt hc => rfl, hK _ ?_⟩; clear hK K)
    refine runC_quiet rfl (fun K hK => ?_)
    go_simp
    refine ⟨.slice sb (4 * nF) sd, fun zt hc => (by have c := cell_at (j := 1) hc.2 rfl; simp [c, Result.andThen]), hK _ ?_⟩
    clear hK K
    repeat (refine runC_quiet rfl (fun K hK => ?_); go_simp; refine ⟨_, fun zt hc => rfl, hK _ ?_⟩; clear hK K)
    refine runC_quiet rfl (fun K hK => ?_)
    go_simp
    refine ⟨.slice fa nF fc, fun zt hc => (by have c := cell_at (j := 1) (heap_keep HT.out hc.1) rfl; simp [c, Result.andThen]), hK _ ?_⟩
    clear hK K
    repeat (refine runC_quiet rfl (fun K hK => ?_); go_simp; refine ⟨_, fun zt hc => rfl, hK _ ?_⟩; clear hK K)
    refine runC_quiet rfl (fun K hK => ?_)
    go_simp
    refine ⟨.agg #[.slice sa (nV + E + nF) sc, .slice sb (4 * nF) sd], fun zt hc => (by have c := cell_at (j := 0) hc.2 rfl; have c' := cell_at (j := 1) hc.2 rfl; simp [c, c', Result.andThen]), hK _ ?_⟩
    clear hK K
    refine runC_quiet rfl (fun K hK => ?_)
    go_simp
    refine ⟨_, fun zt hc => calls_stays ((HX.out zt hc.1).2.1), hK _ ?_⟩
    clear hK K
    refine runC_quiet rfl (fun K hK => ?_)
    go_simp
    refine ⟨.agg #[.slice va nV vc, .slice fa nF fc], fun zt hc => (by have c := cell_at (j := 0) (heap_keep HT.out hc.1) rfl; have c' := cell_at (j := 1) (heap_keep HT.out hc.1) rfl; simp [c, c', Result.andThen]), hK _ ?_⟩
    clear hK K
    refine runC_quiet rfl (fun K hK => ?_)
    go_simp
    refine ⟨_, fun zt hc => calls_stays (HEM.out zt (HB2.out.trans (hc.1.mono (Nat.le_of_lt hs2')))), hK _ ?_⟩
    clear hK K
    repeat (refine runC_quiet rfl (fun K hK => ?_); go_simp; refine ⟨_, fun zt hc => rfl, hK _ ?_⟩; clear hK K)
    refine runC_quiet rfl (fun K hK => ?_)
    go_simp
    refine ⟨.agg #[.slice sa (nV + E + nF) sc, .slice sb (4 * nF) sd], fun zt hc => (by have c := cell_at (j := 0) hc.2 rfl; have c' := cell_at (j := 1) hc.2 rfl; simp [c, c', Result.andThen]), hK _ ?_⟩
    clear hK K
    refine runC_quiet rfl (fun K hK => ?_)
    go_simp
    refine ⟨_, fun zt hc => calls_stays ((HX.out zt hc.1).2.2.1), hK _ ?_⟩
    clear hK K
    refine runC_quiet rfl (fun K hK => ?_)
    go_simp
    refine ⟨.agg #[.slice va nV vc, .slice fa nF fc], fun zt hc => (by have c := cell_at (j := 0) (heap_keep HT.out hc.1) rfl; have c' := cell_at (j := 1) (heap_keep HT.out hc.1) rfl; simp [c, c', Result.andThen]), hK _ ?_⟩
    clear hK K
    refine runC_quiet rfl (fun K hK => ?_)
    go_simp
    refine ⟨_, fun zt hc => calls_stays (HCM.out zt (HB2.out.trans (hc.1.mono (Nat.le_of_lt hs2')))), hK _ ?_⟩
    clear hK K
    repeat (refine runC_quiet rfl (fun K hK => ?_); go_simp; refine ⟨_, fun zt hc => rfl, hK _ ?_⟩; clear hK K)
    refine runC_quiet rfl (fun K hK => ?_)
    go_simp
    refine ⟨.agg #[.slice sa (nV + E + nF) sc, .slice sb (4 * nF) sd], fun zt hc => (by have c := cell_at (j := 0) hc.2 rfl; have c' := cell_at (j := 1) hc.2 rfl; simp [c, c', Result.andThen]), hK _ ?_⟩
    clear hK K
    refine runC_quiet rfl (fun K hK => ?_)
    go_simp
    refine ⟨.agg #[.slice va nV vc, .slice fa nF fc], fun zt hc => (by have c := cell_at (j := 0) (heap_keep HT.out hc.1) rfl; have c' := cell_at (j := 1) (heap_keep HT.out hc.1) rfl; simp [c, c', Result.andThen]), hK _ ?_⟩
    clear hK K
    refine runC_step rfl (by rfl) (fun K hK wa hc => ?_)
    unfold Oper.givesAt
    go_simp
    refine ((HX.out wa hc.1).2.2.2.1).mono ?_
    rintro e wz ⟨a2, c2, rfl, hb⟩
    refine ⟨_, rfl, keepC_st _ _ hc hb, hK _ ?_⟩
    clear hK K hc hb wa wz
    repeat (refine runC_quiet rfl (fun K hK => ?_); go_simp; refine ⟨_, fun zt hc => rfl, hK _ ?_⟩; clear hK K)
    refine runC_step rfl (by rfl) (fun K hK wa hc => ?_)
    unfold Oper.givesAt
    go_simp
    refine (HBM.out wa (HB2.out.trans (hc.1.mono (Nat.le_of_lt hs2')))).mono ?_
    rintro e wz ⟨a3, c3, rfl, hb⟩
    refine ⟨_, rfl, keepC_st _ _ hc hb, hK _ ?_⟩
    clear hK K hc hb wa wz
    repeat (refine runC_quiet rfl (fun K hK => ?_); go_simp; refine ⟨_, fun zt hc => rfl, hK _ ?_⟩; clear hK K)
    refine runC_quiet rfl (fun K hK => ?_)
    go_simp
    refine ⟨.agg #[.slice sa (nV + E + nF) sc, .slice sb (4 * nF) sd], fun zt hc => (by have c := cell_at (j := 0) hc.2 rfl; have c' := cell_at (j := 1) hc.2 rfl; simp [c, c', Result.andThen]), hK _ ?_⟩
    clear hK K
    repeat (refine runC_quiet rfl (fun K hK => ?_); go_simp; refine ⟨_, fun zt hc => rfl, hK _ ?_⟩; clear hK K)
    refine runC_quiet rfl (fun K hK => ?_)
    go_simp
    refine ⟨.slice sb (4 * nF) sd, fun zt hc => (by have c := cell_at (j := 1) hc.2 rfl; simp [c, Result.andThen]), hK _ ?_⟩
    clear hK K
    repeat (refine runC_quiet rfl (fun K hK => ?_); go_simp; refine ⟨_, fun zt hc => rfl, hK _ ?_⟩; clear hK K)
    refine runC_step rfl (by rfl) (fun K hK wa hc => ?_)
    unfold Oper.givesAt
    go_simp
    refine ((HX.out wa hc.1).2.2.2.2).mono ?_
    rintro e wz ⟨a4, c4, rfl, hb⟩
    refine ⟨_, rfl, keepC_st _ _ hc hb, hK _ ?_⟩
    clear hK K hc hb wa wz
    repeat (refine runC_quiet rfl (fun K hK => ?_); go_simp; refine ⟨_, fun zt hc => rfl, hK _ ?_⟩; clear hK K)
    refine runC_nil (fun w6 hc6 => ?_)
    try simp only [Act.put, List.setIfInBounds_toArray, List.set_cons_zero, List.set_cons_succ]
    have HC6 := Lib.hid hc6
    clear hc6
    go_wp2
    go_ret
    exact ⟨rfl, (HB1.out.trans (HB2.out.mono hs1)).trans (HC6.out.1.mono (Nat.le_trans hs1 (Nat.le_of_lt hs2')))⟩
  · have hb1 : (n : Int) > 1048576 := by omega
    go_enter Try.func4, Try.ntmps4
    go_wp2
    go_ret
    exact ⟨rfl, (by repeat (first | exact Below.refl _ _ | refine Below.drew ?_ | refine Below.alloc ?_ (by first | exact Nat.le_refl _ | (simp; done) | (simp; omega) | omega) _ | refine Below.more ?_ (by first | exact Nat.le_refl _ | (simp; done) | (simp; omega) | omega) _ _ | refine Below.setCell ?_ (by first | exact Nat.le_refl _ | (simp; done) | (simp; omega) | omega) _ | assumption))⟩
end Go.Proofs.Ytpfmcobkfofbjaa
