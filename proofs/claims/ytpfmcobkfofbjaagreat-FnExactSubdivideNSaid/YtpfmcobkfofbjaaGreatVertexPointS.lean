/- Contract of the reference's VertexPoint. -/
import Derived.Test.YtpfmcobkfofbjaaGreatVertexPointT
import Derived.Test.YtpfmcobkfofbjaaGreatTerms
import Derived.Test.YtpfmcobkfofbjaaGreatApp3
import Derived.Deep.DeepCutAuto
namespace Go.Proofs.YtpfmcobkfofbjaaGreat
open Go Go.RowKit
/-- The boxes' contents. -/
structure VsF (P B : Nat) (u v : Value) (x0 x1 x2 : Int) (W : World) : Prop where
  m0 : W.cell? ⟨P, 0, none⟩ = some u
  m1 : W.cell? ⟨P, 1, none⟩ = some v
  r0 : W.cell? ⟨P + 1, 0, none⟩ = some (.int .i64 0)
  r1 : W.cell? ⟨P + 1, 1, none⟩ = some (.int .i64 0)
  r2 : W.cell? ⟨P + 1, 2, none⟩ = some (.int .i64 0)
  z0 : W.frozen? ⟨P + 1, 0, none⟩ = false
  z1 : W.frozen? ⟨P + 1, 1, none⟩ = false
  z2 : W.frozen? ⟨P + 1, 2, none⟩ = false
  b0 : W.cell? ⟨B, 0, none⟩ = some (.int .i64 x0)
  b1 : W.cell? ⟨B, 1, none⟩ = some (.int .i64 x1)
  b2 : W.cell? ⟨B, 2, none⟩ = some (.int .i64 x2)
theorem VsF.below {P B : Nat} {u v : Value} {x0 x1 x2 : Int} {w w' : World} (h : VsF P B u v x0 x1 x2 w) (hb : Below w.heap.size w w') : VsF P B u v x0 x1 x2 w' :=
  ⟨cell_below hb h.m0, cell_below hb h.m1, cell_below hb h.r0, cell_below hb h.r1, cell_below hb h.r2, frozen_below hb h.r0 h.z0, frozen_below hb h.r1 h.z1, frozen_below hb h.r2 h.z2, cell_below hb h.b0, cell_below hb h.b1, cell_below hb h.b2⟩
theorem sl_three {W : World} {g : Nat} {e : TypeId} {x y z : VecD} (h : W.heap[g]? = some (.cells #[.int .i64 x.f0, .int .i64 x.f1, .int .i64 x.f2, .int .i64 y.f0, .int .i64 y.f1, .int .i64 y.f2, .int .i64 z.f0, .int .i64 z.f1, .int .i64 z.f2] e (0, 0))) : Sl W (some ⟨g, 0, none⟩) 3 3 (VecD.at [x, y, z]) := fun _ =>
  ⟨g, 0, rfl, (Array.getElem?_eq_some_iff.1 h).1, fun i hi j hj => by rw [cell_of_row W g _ _ e (0, 0) h, ← at_three i hi j hj]; simp⟩
theorem own_one (W : World) (x : VecD) (base : Nat) (e : TypeId) (hb : base ≤ W.heap.size) : (W.alloc (.cells #[.int .i64 x.f0, .int .i64 x.f1, .int .i64 x.f2] e)).ownsRow base e 3 (.slice (some ⟨W.heap.size, 0, none⟩) 1 1) 1 [.int .i64 x.f0, .int .i64 x.f1, .int .i64 x.f2] :=
  ⟨rfl, .inr ⟨W.heap.size, 1, _, rfl, hb, heap_alloc_new _ _, Nat.le_refl _, by decide, rfl, rfl⟩⟩
theorem in64_of {x : Int} (h : -1099511627776000 ≤ x ∧ x ≤ 1099511627776000) : In64 x := ⟨by omega, by omega⟩
set_option maxRecDepth 100000 in
set_option maxHeartbeats 8000000 in
theorem spec_VertexPoint_c (v : Value) (p : MeshD) (x : Int) (w : World) (hr : MeshR w v p) (hs : MeshSz 1048576 p) :
    Calls Tryz.prog 18 #[v, .int .i64 x] w fun e w' => e = .returned (vpR p x) ∧ Below w.heap.size w w' := by
  have HM := Lib.hid hr
  have HS := Lib.hid hs
  obtain ⟨a, c, a', c', rfl, h1, _⟩ := hr
  have hs1 := hs.1
  clear hs
  cases hok : meshOkB p
  · have HE := Lib.hid (vpR_no (p := p) (v := x) (fun h => by rw [meshOkB_true.2 h.1] at hok; cases hok))
    have HOK := Lib.hid hok
    clear hok h1
    go_enter Tryz.func18, Tryz.ntmps18
    go_wp2_with (go_at_call 17; refine (spec_IsValidMesh_c _ p _ (HM.out.below (by repeat (first | exact Below.refl _ _ | refine Below.drew ?_ | refine Below.alloc ?_ (by first | exact Nat.le_refl _ | (simp; done) | (simp; omega) | omega) _ | refine Below.more ?_ (by first | exact Nat.le_refl _ | (simp; done) | (simp; omega) | omega) _ _ | refine Below.setCell ?_ (by first | exact Nat.le_refl _ | (simp; done) | (simp; omega) | omega) _ | assumption))) HS.out).mono ?_; rw [HOK.out]; rintro e wn ⟨rfl, hbn⟩; obtain ⟨X, nX, rfl⟩ := Below.ext hbn; clear hbn)
    exact bodyPost_ret (v := vecV 0 0 0) (by simp [results, Tryz.results18, go_sem]) rfl ⟨by rw [HE.out], (by repeat (first | exact Below.refl _ _ | refine Below.drew ?_ | refine Below.alloc ?_ (by first | exact Nat.le_refl _ | (simp; done) | (simp; omega) | omega) _ | refine Below.more ?_ (by first | exact Nat.le_refl _ | (simp; done) | (simp; omega) | omega) _ _ | refine Below.setCell ?_ (by first | exact Nat.le_refl _ | (simp; done) | (simp; omega) | omega) _ | assumption))⟩
  have HOK := Lib.hid hok
  have HMO := Lib.hid (meshOkB_true.1 hok)
  have hwrap : IntKind.i64.wrap ((p.nV : Int) - 1) = (p.nV : Int) - 1 := IntWalk.i64_in _ (by omega)
  cases hin : inB x 0 ((p.nV : Int) - 1)
  · have HE := Lib.hid (vpR_no (p := p) (v := x) (fun h => inB_false.1 hin h.2))
    clear hok h1
    go_enter Tryz.func18, Tryz.ntmps18
    go_wp2_with (first | (go_at_call 17; refine (spec_IsValidMesh_c _ p _ (HM.out.below (by repeat (first | exact Below.refl _ _ | refine Below.drew ?_ | refine Below.alloc ?_ (by first | exact Nat.le_refl _ | (simp; done) | (simp; omega) | omega) _ | refine Below.more ?_ (by first | exact Nat.le_refl _ | (simp; done) | (simp; omega) | omega) _ _ | refine Below.setCell ?_ (by first | exact Nat.le_refl _ | (simp; done) | (simp; omega) | omega) _ | assumption))) HS.out).mono ?_; rw [HOK.out]; rintro e wn ⟨rfl, hbn⟩; obtain ⟨X, nX, rfl⟩ := Below.ext hbn; clear hbn) | (go_at_call 37; refine (l01In_c _ _ _ _).mono ?_; rw [hin]; rintro e w' ⟨rfl, rfl⟩))
    exact bodyPost_ret (v := vecV 0 0 0) (by simp [results, Tryz.results18, go_sem]) rfl ⟨by rw [HE.out], (by repeat (first | exact Below.refl _ _ | refine Below.drew ?_ | refine Below.alloc ?_ (by first | exact Nat.le_refl _ | (simp; done) | (simp; omega) | omega) _ | refine Below.more ?_ (by first | exact Nat.le_refl _ | (simp; done) | (simp; omega) | omega) _ _ | refine Below.setCell ?_ (by first | exact Nat.le_refl _ | (simp; done) | (simp; omega) | omega) _ | assumption))⟩
  obtain ⟨hx0, hx1⟩ := inB_true.1 hin
  have HE := Lib.hid (vpR_yes (p := p) (v := x) ⟨HMO.out, hx0, hx1⟩)
  have hm := HMO.out
  have hbn : bndD p = bndL p.faces p.nF := by rw [bndD, if_pos hok]
  have hed : edgesD p = edgesL p.faces p.nF := by rw [edgesD, if_pos hok]
  have hvf : vfacesD p x = vfTo p.faces x p.nF := by rw [vfacesD, if_pos hok]
  have hnb : nbD p x = sortI (nbOf (edgesL p.faces p.nF) x) := by rw [nbD, hed]
  have HRM := Lib.hid (fun W (h : Below w.heap.size w W) => hbn ▸ l07Rim_c _ p x W (HM.out.below h) HS.out)
  have HVF := Lib.hid (fun W (h : Below w.heap.size w W) => hvf ▸ spec_VertexFaces_c _ p x W (HM.out.below h) HS.out)
  have HNB := Lib.hid (fun W (h : Below w.heap.size w W) => hnb ▸ spec_Neighbors_c _ p x W (HM.out.below h) HS.out)
  have HFC := Lib.hid (fun (z : Int) (hz : 0 ≤ z ∧ z < (p.nF : Int)) W (h : Below w.heap.size w W) => (fpR_yes (p := p) (x := z) ⟨hm, hz.1, by omega⟩) ▸ spec_FacePoint_c _ p z W (HM.out.below h) HS.out)
  have HNB2 : Hid (∀ z ∈ sortI (nbOf (edgesL p.faces p.nF) x), 0 ≤ z ∧ z < (p.nV : Int)) := Lib.hid (fun z hz => nb_in hm (fun e he => he) (mem_sortI.1 hz))
  have HNE : Hid (∀ z ∈ nbOf (bndL p.faces p.nF) x, 0 ≤ z ∧ z < (p.nV : Int)) := Lib.hid (fun z hz => nb_in hm (fun e he => (List.mem_filter.1 he).1) hz)
  have HNF : Hid (∀ z ∈ vfTo p.faces x p.nF, 0 ≤ z ∧ z < (p.nF : Int)) := Lib.hid (fun z hz => vf_in hz)
  have HVI := Lib.hid (fun z (hz : 0 ≤ z ∧ z < (p.nV : Int)) => vtx_in hm hz)
  have HFB := Lib.hid (fun z (hz : 0 ≤ z ∧ z < (p.nF : Int)) => fpD_B hm hz)
  have hfl : (vfTo p.faces x p.nF).length ≤ 64 := Nat.le_trans (vfTo_len _ _ _) hm.2.1
  have hnl : (sortI (nbOf (edgesL p.faces p.nF) x)).length ≤ 256 := by
    rw [len_sortI, ← hed]
    exact Nat.le_trans (nbOf_ups (ups_edgesD p).1 x) (edgesD_le p)
  obtain ⟨ix, rfl⟩ := Int.eq_ofNat_of_zero_le hx0
  have hx2 : (ix : Int) < (p.nV : Int) := by omega
  have hx3 : ix < p.nV := by omega
  have hold := HVI.out (ix : Int) ⟨hx0, hx2⟩
  obtain ⟨b, o, rfl, hb, hc⟩ := h1 (by omega)
  have HVC := Lib.hid (show ∀ z : Nat, z < p.nV → w.cell? ⟨b, o + z * 3, none⟩ = some (.int .i64 (vtx p z).f0) ∧ w.cell? ⟨b, o + z * 3 + 1, none⟩ = some (.int .i64 (vtx p z).f1) ∧ w.cell? ⟨b, o + z * 3 + 2, none⟩ = some (.int .i64 (vtx p z).f2) from fun z hz => ⟨hc z hz 0 (by omega), hc z hz 1 (by omega), hc z hz 2 (by omega)⟩)
  obtain ⟨c0, c1, c2⟩ := HVC.out ix hx3
  have hb1 : b < w.heap.size + 1 := by omega
  have hb2 : b < w.heap.size + 1 + 1 := by omega
  have hb3 : b < w.heap.size + 1 + 1 + 1 := by omega
  clear hc h1 hok hbn hed hvf hnb hm
  obtain ⟨R, hR⟩ : ∃ R, R = vpE p ix := ⟨_, rfl⟩
  rw [← hR] at HE
  have HVE := Lib.hid hR
  clear hR
  unfold vpE at HVE
  dsimp only at HVE
  rw [← len_sortI (nbOf (edgesL p.faces p.nF) ix), ← sumG_sort (·.f0) p (nbOf (edgesL p.faces p.nF) ix), ← sumG_sort (·.f1) p (nbOf (edgesL p.faces p.nF) ix), ← sumG_sort (·.f2) p (nbOf (edgesL p.faces p.nF) ix)] at HVE
  generalize vfTo p.faces ix p.nF = faces at *
  generalize nbOf (bndL p.faces p.nF) ix = E at *
  generalize sortI (nbOf (edgesL p.faces p.nF) ix) = N at *
  generalize hvx : vtx p ix = vx at *
  have HVX := Lib.hid hvx
  clear hvx
  obtain ⟨x0, x1, x2⟩ := vx
  dsimp only at c0 c1 c2 hold HVE
  go_enter Tryz.func18, Tryz.ntmps18
  go_upto_region 3 with (first | (go_at_call 17; refine (spec_IsValidMesh_c _ p _ (HM.out.below (by repeat (first | exact Below.refl _ _ | refine Below.drew ?_ | refine Below.alloc ?_ (by first | exact Nat.le_refl _ | (simp; done) | (simp; omega) | omega) _ | refine Below.more ?_ (by first | exact Nat.le_refl _ | (simp; done) | (simp; omega) | omega) _ _ | refine Below.setCell ?_ (by first | exact Nat.le_refl _ | (simp; done) | (simp; omega) | omega) _ | assumption))) HS.out).mono ?_; rw [HOK.out]; rintro e wn ⟨rfl, hbn⟩; obtain ⟨X, nX, rfl⟩ := Below.ext hbn; clear hbn) | (go_at_call 37; refine (l01In_c _ _ _ _).mono ?_; rw [hin]; rintro e w' ⟨rfl, rfl⟩))
  go_cut [5] (fun s5 wy => ∃ B : Nat, s5 = .pointer (some ⟨B, 0, none⟩) ∧ VsF w.heap.size B (.slice (some ⟨b, o, none⟩) p.nV c) (.slice a' p.nF c') x0 x1 x2 wy ∧ Below w.heap.size w wy)
  case first =>
    go_wp2
    go_meet
    exact ⟨_, rfl, ⟨by simp [go_sem], by simp [go_sem], by simp [go_sem], by simp [go_sem], by simp [go_sem], by simp [go_sem], by simp [go_sem], by simp [go_sem], by simp [go_sem], by simp [go_sem], by simp [go_sem]⟩, (by repeat (first | exact Below.refl _ _ | refine Below.drew ?_ | refine Below.alloc ?_ (by first | exact Nat.le_refl _ | (simp; done) | (simp; omega) | omega) _ | refine Below.more ?_ (by first | exact Nat.le_refl _ | (simp; done) | (simp; omega) | omega) _ _ | refine Below.setCell ?_ (by first | exact Nat.le_refl _ | (simp; done) | (simp; omega) | omega) _ | assumption))⟩
  case rest =>
    rename World => wx
    obtain ⟨B, rfl, hvs, hbx⟩ := hcut
    have HBX := Lib.hid hbx
    have HV := Lib.hid hvs
    have hsx := hbx.size
    have HVX2 := Lib.hid (fun (z : Nat) (hz : z < p.nV) => (⟨cell_below hbx (HVC.out z hz).1, cell_below hbx (HVC.out z hz).2.1, cell_below hbx (HVC.out z hz).2.2⟩ : wx.cell? ⟨b, o + z * 3, none⟩ = some (.int .i64 (vtx p z).f0) ∧ wx.cell? ⟨b, o + z * 3 + 1, none⟩ = some (.int .i64 (vtx p z).f1) ∧ wx.cell? ⟨b, o + z * 3 + 2, none⟩ = some (.int .i64 (vtx p z).f2)))
    obtain ⟨m0, m1, r0, r1, r2, z0, z1, z2, b0, b1, b2⟩ := hvs
    clear hbx HVC c0 c1 c2
    obtain ⟨⟨o00, o01⟩, ⟨o10, o11⟩, ⟨o20, o21⟩⟩ := hold
    have HRM2 := Lib.hid (fun W (h : Below wx.heap.size wx W) => HRM.out W (HBX.out.trans (h.mono HBX.out.size)))
    have HVF2 := Lib.hid (fun W (h : Below wx.heap.size wx W) => HVF.out W (HBX.out.trans (h.mono HBX.out.size)))
    have HNB3 := Lib.hid (fun W (h : Below wx.heap.size wx W) => HNB.out W (HBX.out.trans (h.mono HBX.out.size)))
    have HFC2 := Lib.hid (fun (z : Int) (hz : 0 ≤ z ∧ z < (p.nF : Int)) W (h : Below wx.heap.size wx W) => HFC.out z hz W (HBX.out.trans (h.mono HBX.out.size)))
    have hwx : w.heap.size + 1 < wx.heap.size := World.block_lt_of_cell? _ _ r0
    have hBx : B < wx.heap.size := World.block_lt_of_cell? _ _ b0
    have hbx2 : b < wx.heap.size := by omega
    clear HRM HVF HNB HFC HM HS HMO HOK hwrap hin hx0 hx1
    by_cases h2 : E.length = 2
    · rw [if_pos h2] at HVE
      have hq1 : ((E.length : Int) == 2) = true := by rw [beq_iff_eq]; omega
      obtain ⟨ez, eu, rfl⟩ : ∃ z u, E = [z, u] := by
        match E, h2 with
        | [z, u], _ => exact ⟨z, u, rfl⟩
      have hz := HNE.out ez (by simp)
      have hu := HNE.out eu (by simp)
      obtain ⟨z, rfl⟩ := Int.eq_ofNat_of_zero_le hz.1
      obtain ⟨u, rfl⟩ := Int.eq_ofNat_of_zero_le hu.1
      obtain ⟨⟨v00, v01⟩, ⟨v10, v11⟩, ⟨v20, v21⟩⟩ := HVI.out z hz
      obtain ⟨⟨u00, u01⟩, ⟨u10, u11⟩, ⟨u20, u21⟩⟩ := HVI.out u hu
      have hzn := hz.2
      have hun := hu.2
      obtain ⟨a0, a1, a2⟩ := HVX2.out z (by omega)
      obtain ⟨d0, d1, d2⟩ := HVX2.out u (by omega)
      have HV2 : Hid (R = vecV (fdivI (x0 * 6 + (vtx p z).f0 + (vtx p u).f0) 8) (fdivI (x1 * 6 + (vtx p z).f1 + (vtx p u).f1) 8) (fdivI (x2 * 6 + (vtx p z).f2 + (vtx p u).f2) 8)) := Lib.hid (by
        rw [HVE.out]
        have e : ∀ g : VecD → Int, sumG g p [(z : Int), (u : Int)] = g (vtx p z) + g (vtx p u) := fun g => by simp [sumG]
        rw [e, e, e]
        have e2 : ∀ x y t : Int, x * 6 + (y + t) = x * 6 + y + t := fun x y t => by omega
        rw [e2, e2, e2])
      have HB3 : Hid (VecsB [⟨x0 * 6, x1 * 6, x2 * 6⟩, vtx p z, vtx p u] 3) := Lib.hid (fun i hi => by
        match i, hi with
        | 0, _ => exact ⟨by simp; omega, by simp; omega, by simp; omega⟩
        | 1, _ => exact ⟨by simp; omega, by simp; omega, by simp; omega⟩
        | 2, _ => exact ⟨by simp; omega, by simp; omega, by simp; omega⟩)
      have HAV := Lib.hid (fun a cap W h => l07SumL_c a cap [⟨x0 * 6, x1 * 6, x2 * 6⟩, vtx p z, vtx p u] 3 W HB3.out (by omega) h)
      rw [sum_three, sum_three, sum_three] at HAV
      have HS3 := Lib.hid (fun W g e => sl_three (W := W) (g := g) (e := e) (x := ⟨x0 * 6, x1 * 6, x2 * 6⟩) (y := vtx p z) (z := vtx p u))
      clear HVE HVX2 HNE HB3 h2 hz hu HVF2 HNB3 HFC2 HVI HFB HNF HNB2
      generalize vtx p z = vz at *
      generalize vtx p u = vu at *
      obtain ⟨y0, y1, y2⟩ := vz
      obtain ⟨t0, t1, t2⟩ := vu
      dsimp only at a0 a1 a2 d0 d1 d2 HV2 HS3 HAV v00 v01 v10 v11 v20 v21 u00 u01 u10 u11 u20 u21
      have i0 : In64 (x0 * 6) := ⟨by omega, by omega⟩
      have i1 : In64 (x1 * 6) := ⟨by omega, by omega⟩
      have i2 : In64 (x2 * 6) := ⟨by omega, by omega⟩
      have k0 : In64 (x0 * 6 + y0 + t0) := ⟨by omega, by omega⟩
      have k1 : In64 (x1 * 6 + y1 + t1) := ⟨by omega, by omega⟩
      have k2 : In64 (x2 * 6 + y2 + t2) := ⟨by omega, by omega⟩
      go_wp2_with (go_at_call 48; refine (HRM2.out _ (by repeat (first | exact Below.refl _ _ | refine Below.drew ?_ | refine Below.alloc ?_ (by first | exact Nat.le_refl _ | (simp; done) | (simp; omega) | omega) _ | refine Below.more ?_ (by first | exact Nat.le_refl _ | (simp; done) | (simp; omega) | omega) _ _ | refine Below.setCell ?_ (by first | exact Nat.le_refl _ | (simp; done) | (simp; omega) | omega) _ | assumption))).mono ?_; rintro e wq ⟨ea, ec, rfl, ho, hbq⟩; have HO := Lib.hid ho; have HBQ := Lib.hid hbq; clear ho hbq)
      obtain ⟨m0, m1, r0, r1, r2, z0, z1, z2, b0, b1, b2⟩ := HV.out.below HBQ.out
      replace a0 := cell_below HBQ.out a0
      replace a1 := cell_below HBQ.out a1
      replace a2 := cell_below HBQ.out a2
      replace d0 := cell_below HBQ.out d0
      replace d1 := cell_below HBQ.out d1
      replace d2 := cell_below HBQ.out d2
      have hsq := HBQ.out.size
      obtain ⟨fb, fo, hfa, hfb, hfc⟩ := HO.out.sl (by simp)
      subst hfa
      have f0 : wq.cell? ⟨fb, fo, none⟩ = some (.int .i64 z) := by simpa [intAt] using hfc 0 (by simp) 0 (by omega)
      have f1 : wq.cell? ⟨fb, fo + 1, none⟩ = some (.int .i64 u) := by simpa [intAt] using hfc 1 (by simp) 0 (by omega)
      have hwq : w.heap.size + 1 < wq.heap.size := by omega
      have hwq0 : w.heap.size < wq.heap.size := by omega
      have hwq2 : ∀ n, w.heap.size + 1 < wq.heap.size + n := fun n => by omega
      have hwq3 : ∀ n m, w.heap.size + 1 < wq.heap.size + n + m := fun n m => by omega
      have hBq : B < wq.heap.size := by omega
      have hbq2 : b < wq.heap.size := by omega
      clear hfc HO
      ((first | refine region_qt2 16 (by kernel_rfl) (by kernel_rfl) ?_ | refine region_qt 16 (by kernel_rfl) (by kernel_rfl) ?_); simp only [List.take_succ_cons, List.take_zero, List.drop_succ_cons, List.drop_zero])
      repeat (quiet_step (fail))
      (refine wpQuiet_step (fun K hK => ?_); go_simp; refine ⟨_, fun zt => ext_below (l07Times_c x0 x1 x2 6 _ i0 i1 i2), hK _ ?_⟩; clear hK K)
      repeat (quiet_step (fail))
      (refine wpQuiet_nil ?_; intro X nX)
      go_wp2_with (first | (go_at_call 50; refine (HAV.out _ _ _ (HS3.out _ _ _ (heap_at_new (by simp)))).mono ?_; rintro e wn ⟨rfl, hbn⟩; obtain ⟨X, nX, rfl⟩ := Below.ext hbn; clear hbn) | (go_at_call 49; refine (l07By_c _ _ _ 8 _ k0 k1 k2).mono ?_; rintro e wn ⟨rfl, hbn⟩; obtain ⟨X, nX, rfl⟩ := Below.ext hbn; clear hbn))
      exact bodyPost_ret (v := vecV (fdivI (x0 * 6 + y0 + t0) 8) (fdivI (x1 * 6 + y1 + t1) 8) (fdivI (x2 * 6 + y2 + t2) 8)) (by simp [results, Tryz.results18, go_sem, r0, r1, r2, hwq, hwq2, hwq3]) rfl ⟨by rw [HE.out]; exact congrArg Ending.returned HV2.out.symm, Below.trans (HBX.out.trans (HBQ.out.mono HBX.out.size)) (by repeat (first | exact Below.refl _ _ | refine Below.drew ?_ | refine Below.alloc ?_ (by first | exact Nat.le_refl _ | (simp; done) | (simp; omega) | omega) _ | refine Below.more ?_ (by first | exact Nat.le_refl _ | (simp; done) | (simp; omega) | omega) _ _ | refine Below.setCell ?_ (by first | exact Nat.le_refl _ | (simp; done) | (simp; omega) | omega) _ | assumption))⟩
    · rw [if_neg h2] at HVE
      have hq1 : ((E.length : Int) == 2) = false := by rw [beq_eq_false_iff_ne]; omega
      by_cases h3 : 0 < E.length ∨ faces.length = 0
      · rw [if_pos h3] at HVE
        clear h2 HNE HNB2 HNF HVI HFB HVX2 HFC2 HNB3
        by_cases h4 : 0 < E.length
        · have hq2 : (0 : Int) < (E.length : Int) := by omega
          go_wp2_with (first | (go_at_call 48; refine (HRM2.out _ (by repeat (first | exact Below.refl _ _ | refine Below.drew ?_ | refine Below.alloc ?_ (by first | exact Nat.le_refl _ | (simp; done) | (simp; omega) | omega) _ | refine Below.more ?_ (by first | exact Nat.le_refl _ | (simp; done) | (simp; omega) | omega) _ _ | refine Below.setCell ?_ (by first | exact Nat.le_refl _ | (simp; done) | (simp; omega) | omega) _ | assumption))).mono ?_; rintro e wq ⟨ea, ec, rfl, _, hbq⟩; have HBQ := Lib.hid hbq; obtain ⟨m0, m1, r0, r1, r2, z0, z1, z2, b0, b1, b2⟩ := HV.out.below hbq; have hwq := World.block_lt_of_cell? _ _ r0; have hwq0 := World.block_lt_of_cell? _ _ m0; clear hbq) | (go_at_call 52; refine (HVF2.out _ (Below.trans HBQ.out (by repeat (first | exact Below.refl _ _ | refine Below.drew ?_ | refine Below.alloc ?_ (by first | exact Nat.le_refl _ | (simp; done) | (simp; omega) | omega) _ | refine Below.more ?_ (by first | exact Nat.le_refl _ | (simp; done) | (simp; omega) | omega) _ _ | refine Below.setCell ?_ (by first | exact Nat.le_refl _ | (simp; done) | (simp; omega) | omega) _ | assumption)))).mono ?_; rintro e wv ⟨va, vc, rfl, _, hbv⟩; have HBV := Lib.hid (HBQ.out.trans (hbv.mono HBQ.out.size)); obtain ⟨m0, m1, r0, r1, r2, z0, z1, z2, b0, b1, b2⟩ := HV.out.below HBV.out; have hwv := World.block_lt_of_cell? _ _ r0; have hwv0 := World.block_lt_of_cell? _ _ m0; have hBv := World.block_lt_of_cell? _ _ b0; clear hbv))
          exact bodyPost_ret (v := vecV x0 x1 x2) (by simp [results, Tryz.results18, go_sem, r0, r1, r2]) rfl ⟨by rw [HE.out]; exact congrArg Ending.returned HVE.out.symm, Below.trans (HBX.out.trans (HBV.out.mono HBX.out.size)) (by repeat (first | exact Below.refl _ _ | refine Below.drew ?_ | refine Below.alloc ?_ (by first | exact Nat.le_refl _ | (simp; done) | (simp; omega) | omega) _ | refine Below.more ?_ (by first | exact Nat.le_refl _ | (simp; done) | (simp; omega) | omega) _ _ | refine Below.setCell ?_ (by first | exact Nat.le_refl _ | (simp; done) | (simp; omega) | omega) _ | assumption))⟩
        · have h30 : E.length = 0 := by omega
          have h40 : faces.length = 0 := by omega
          rw [h30] at HRM2
          rw [h40] at HVF2
          clear h3 h4 hq1
          go_wp2_with (first | (go_at_call 48; refine (HRM2.out _ (by repeat (first | exact Below.refl _ _ | refine Below.drew ?_ | refine Below.alloc ?_ (by first | exact Nat.le_refl _ | (simp; done) | (simp; omega) | omega) _ | refine Below.more ?_ (by first | exact Nat.le_refl _ | (simp; done) | (simp; omega) | omega) _ _ | refine Below.setCell ?_ (by first | exact Nat.le_refl _ | (simp; done) | (simp; omega) | omega) _ | assumption))).mono ?_; rintro e wq ⟨ea, ec, rfl, _, hbq⟩; have HBQ := Lib.hid hbq; obtain ⟨m0, m1, r0, r1, r2, z0, z1, z2, b0, b1, b2⟩ := HV.out.below hbq; have hwq := World.block_lt_of_cell? _ _ r0; have hwq0 := World.block_lt_of_cell? _ _ m0; clear hbq) | (go_at_call 52; refine (HVF2.out _ (Below.trans HBQ.out (by repeat (first | exact Below.refl _ _ | refine Below.drew ?_ | refine Below.alloc ?_ (by first | exact Nat.le_refl _ | (simp; done) | (simp; omega) | omega) _ | refine Below.more ?_ (by first | exact Nat.le_refl _ | (simp; done) | (simp; omega) | omega) _ _ | refine Below.setCell ?_ (by first | exact Nat.le_refl _ | (simp; done) | (simp; omega) | omega) _ | assumption)))).mono ?_; rintro e wv ⟨va, vc, rfl, _, hbv⟩; have HBV := Lib.hid (HBQ.out.trans (hbv.mono HBQ.out.size)); obtain ⟨m0, m1, r0, r1, r2, z0, z1, z2, b0, b1, b2⟩ := HV.out.below HBV.out; have hwv := World.block_lt_of_cell? _ _ r0; have hwv0 := World.block_lt_of_cell? _ _ m0; have hBv := World.block_lt_of_cell? _ _ b0; clear hbv))
          exact bodyPost_ret (v := vecV x0 x1 x2) (by simp [results, Tryz.results18, go_sem, r0, r1, r2]) rfl ⟨by rw [HE.out]; exact congrArg Ending.returned HVE.out.symm, Below.trans (HBX.out.trans (HBV.out.mono HBX.out.size)) (by repeat (first | exact Below.refl _ _ | refine Below.drew ?_ | refine Below.alloc ?_ (by first | exact Nat.le_refl _ | (simp; done) | (simp; omega) | omega) _ | refine Below.more ?_ (by first | exact Nat.le_refl _ | (simp; done) | (simp; omega) | omega) _ _ | refine Below.setCell ?_ (by first | exact Nat.le_refl _ | (simp; done) | (simp; omega) | omega) _ | assumption))⟩
      rw [if_neg h3] at HVE
      have h30 : E.length = 0 := by omega
      have hfn : 0 < faces.length := by omega
      rw [h30] at HRM2
      have hq3 : ((faces.length : Int) == 0) = false := by rw [beq_eq_false_iff_ne]; omega
      clear h2 h3 hq1 h30 HNE
      have HTF := Lib.hid (show ∀ k, k < faces.length → faces.take (k + 1) = faces.take k ++ [faces.getD k 0] from fun k hk => by rw [List.take_add_one, List.getElem?_eq_getElem hk, List.getD_eq_getElem?_getD, List.getElem?_eq_getElem hk]; rfl)
      have HTN := Lib.hid (show ∀ k, k < N.length → N.take (k + 1) = N.take k ++ [N.getD k 0] from fun k hk => by rw [List.take_add_one, List.getElem?_eq_getElem hk, List.getD_eq_getElem?_getD, List.getElem?_eq_getElem hk]; rfl)
      have HMF := Lib.hid (fun k (hk : k < faces.length) => HNF.out (faces.getD k 0) (by rw [List.getD_eq_getElem?_getD, List.getElem?_eq_getElem hk]; exact List.getElem_mem hk))
      have HMN := Lib.hid (fun k (hk : k < N.length) => HNB2.out (N.getD k 0) (by rw [List.getD_eq_getElem?_getD, List.getElem?_eq_getElem hk]; exact List.getElem_mem hk))
      have HAF := Lib.hid (List.take_length (l := faces))
      have HAN := Lib.hid (List.take_length (l := N))
      have HTL := Lib.hid (show ∀ (d y : VecD) (A M : List Int), A.length ≤ 64 → M.length ≤ 256 → (terms p d y A M).length ≤ 1000 from fun d y A M h1 h2 => by rw [terms_len]; omega)
      have HTK := Lib.hid (show ∀ (A : List Int) k, (A.take k).length ≤ A.length from fun A k => by rw [List.length_take]; omega)
      have hq : -3904 ≤ (faces.length : Int) * ((faces.length : Int) - 3) ∧ (faces.length : Int) * ((faces.length : Int) - 3) ≤ 3904 := by
        have := mul_bd (x := (faces.length : Int)) (k := (faces.length : Int) - 3) (A := 64) (B := 61) (by omega) (by omega)
        omega
      have hqq : 0 ≤ (faces.length : Int) * (faces.length : Int) ∧ (faces.length : Int) * (faces.length : Int) ≤ 4096 := by
        have := mul_bd (x := (faces.length : Int)) (k := (faces.length : Int)) (A := 64) (B := 64) (by omega) (by omega)
        exact ⟨Int.mul_nonneg (by omega) (by omega), by omega⟩
      have hcm : ((faces.length : Int) - 3) * (faces.length : Int) = (faces.length : Int) * ((faces.length : Int) - 3) := Int.mul_comm _ _
      have s0 := mul_bd (x := x0) (k := (faces.length : Int) * ((faces.length : Int) - 3)) (A := 1000000) (B := 3904) ⟨o00, o01⟩ hq
      have s1 := mul_bd (x := x1) (k := (faces.length : Int) * ((faces.length : Int) - 3)) (A := 1000000) (B := 3904) ⟨o10, o11⟩ hq
      have s2 := mul_bd (x := x2) (k := (faces.length : Int) * ((faces.length : Int) - 3)) (A := 1000000) (B := 3904) ⟨o20, o21⟩ hq
      have HTM := Lib.hid (fun W i0 i1 i2 => l07Times_c x0 x1 x2 ((faces.length : Int) * ((faces.length : Int) - 3)) W i0 i1 i2)
      have HBY := Lib.hid (fun y0 y1 y2 W i0 i1 i2 => l07By_c y0 y1 y2 ((faces.length : Int) * (faces.length : Int)) W i0 i1 i2)
      generalize hq0 : (faces.length : Int) * ((faces.length : Int) - 3) = q at *
      generalize hqq0 : (faces.length : Int) * (faces.length : Int) = qq at *
      have wq1 : IntKind.i64.wrap q = q := IntWalk.i64_in _ ⟨by omega, by omega⟩
      have wq2 : IntKind.i64.wrap qq = qq := IntWalk.i64_in _ ⟨by omega, by omega⟩
      generalize x0 * q = c0 at *
      generalize x1 * q = c1 at *
      generalize x2 * q = c2 at *
      have HBT := Lib.hid (show ∀ A M : List Int, (∀ z ∈ A, 0 ≤ z ∧ z < (p.nF : Int)) → (∀ z ∈ M, 0 ≤ z ∧ z < (p.nV : Int)) → VecsB (terms p ⟨c0, c1, c2⟩ ⟨x0, x1, x2⟩ A M) (terms p ⟨c0, c1, c2⟩ ⟨x0, x1, x2⟩ A M).length from fun A M hA hM => terms_B ⟨by dsimp only; omega, by dsimp only; omega, by dsimp only; omega⟩ ⟨by dsimp only; omega, by dsimp only; omega, by dsimp only; omega⟩ (fun z hz => HFB.out z (hA z hz)) (fun z hz => by obtain ⟨h1, h2, h3⟩ := HVI.out z (hM z hz); exact ⟨by omega, by omega, by omega⟩))
      have HSUM := Lib.hid (fun g => sum_terms g p ⟨c0, c1, c2⟩ ⟨x0, x1, x2⟩ faces N)
      generalize hfl2 : faces.length = n at *
      generalize hnl2 : N.length = nl at *
      have HFL := Lib.hid hfl2
      have HNL := Lib.hid hnl2
      clear hfl2 hnl2
      go_wp2_with (first | (go_at_call 48; refine (HRM2.out _ (by repeat (first | exact Below.refl _ _ | refine Below.drew ?_ | refine Below.alloc ?_ (by first | exact Nat.le_refl _ | (simp; done) | (simp; omega) | omega) _ | refine Below.more ?_ (by first | exact Nat.le_refl _ | (simp; done) | (simp; omega) | omega) _ _ | refine Below.setCell ?_ (by first | exact Nat.le_refl _ | (simp; done) | (simp; omega) | omega) _ | assumption))).mono ?_; rintro e wq ⟨ea, ec, rfl, _, hbq⟩; have HBQ := Lib.hid hbq; obtain ⟨m0, m1, r0, r1, r2, z0, z1, z2, b0, b1, b2⟩ := HV.out.below hbq; have hwq := World.block_lt_of_cell? _ _ r0; have hwq0 := World.block_lt_of_cell? _ _ m0; clear hbq) | (go_at_call 52; refine (HVF2.out _ (Below.trans HBQ.out (by repeat (first | exact Below.refl _ _ | refine Below.drew ?_ | refine Below.alloc ?_ (by first | exact Nat.le_refl _ | (simp; done) | (simp; omega) | omega) _ | refine Below.more ?_ (by first | exact Nat.le_refl _ | (simp; done) | (simp; omega) | omega) _ _ | refine Below.setCell ?_ (by first | exact Nat.le_refl _ | (simp; done) | (simp; omega) | omega) _ | assumption)))).mono ?_; rintro e wv ⟨va, vc, rfl, hov, hbv⟩; have HOV := Lib.hid hov.sl; have HBV := Lib.hid (HBQ.out.trans (hbv.mono HBQ.out.size)); obtain ⟨m0, m1, r0, r1, r2, z0, z1, z2, b0, b1, b2⟩ := HV.out.below HBV.out; have hwv := World.block_lt_of_cell? _ _ r0; have hwv0 := World.block_lt_of_cell? _ _ m0; have hBv := World.block_lt_of_cell? _ _ b0; clear hov hbv) | (go_at_call 51; refine (HTM.out _ ⟨by omega, by omega⟩ ⟨by omega, by omega⟩ ⟨by omega, by omega⟩).mono ?_; rintro e wn ⟨rfl, hbn⟩; obtain ⟨X, nX, rfl⟩ := Below.ext hbn; clear hbn))
      have HWV := Lib.hid (HBV.out.trans (show Below wx.heap.size wv _ from (by repeat (first | exact Below.refl _ _ | refine Below.drew ?_ | refine Below.alloc ?_ (by first | exact Nat.le_refl _ | (simp; done) | (simp; omega) | omega) _ | refine Below.more ?_ (by first | exact Nat.le_refl _ | (simp; done) | (simp; omega) | omega) _ _ | refine Below.setCell ?_ (by first | exact Nat.le_refl _ | (simp; done) | (simp; omega) | omega) _ | assumption))))
      go_loopw [9, 79] (fun out i wr => ∃ (k : Nat), k ≤ n ∧ i = .int .i64 k ∧ Below wv.heap.size wv wr ∧ wr.ownsRow wv.heap.size 43 3 out (terms p ⟨c0, c1, c2⟩ ⟨x0, x1, x2⟩ (faces.take k) []).length (vecVals (terms p ⟨c0, c1, c2⟩ ⟨x0, x1, x2⟩ (faces.take k) []))) (fun _ i _ => n - (intOf i).toNat)
      case atStart =>
        refine ⟨0, by omega, rfl, (by repeat (first | exact Below.refl _ _ | refine Below.drew ?_ | refine Below.alloc ?_ (by first | exact Nat.le_refl _ | (simp; done) | (simp; omega) | omega) _ | refine Below.more ?_ (by first | exact Nat.le_refl _ | (simp; done) | (simp; omega) | omega) _ _ | refine Below.setCell ?_ (by first | exact Nat.le_refl _ | (simp; done) | (simp; omega) | omega) _ | assumption)), ?_⟩
        have h := own_one (more wv X nX) ⟨c0, c1, c2⟩ wv.heap.size 43 (by simp)
        have hz : (more wv X nX).heap.size = wv.heap.size + X.size := by simp
        rw [hz] at h
        simpa [terms, vecVals, flat, VecD.at] using h
      case round =>
        obtain ⟨k, hk, rfl, hbr, hown⟩ := hrel
        have HBR := Lib.hid hbr
        have HOWN := Lib.hid hown
        have hsr := hbr.size
        have HXR := Lib.hid (HBV.out.trans (hbr.mono HBV.out.size))
        have n0 := cell_below hbr m0
        have n1 := cell_below hbr m1
        have hwr0 := World.block_lt_of_cell? _ _ n0
        clear hown
        by_cases hlt : k < n
        · have hk1 : (k : Int) < (n : Int) := by omega
          have hz := HMF.out k hlt
          have HZ := Lib.hid (HFC2.out _ hz)
          rw [fpV_D] at HZ
          have HT1 := Lib.hid (show terms p ⟨c0, c1, c2⟩ ⟨x0, x1, x2⟩ (faces.take (k + 1)) [] = terms p ⟨c0, c1, c2⟩ ⟨x0, x1, x2⟩ (faces.take k) [] ++ [fpD p (faces.getD k 0)] from by rw [HTF.out k hlt, terms_face])
          have hlen := HTL.out ⟨c0, c1, c2⟩ ⟨x0, x1, x2⟩ (faces.take k) [] (Nat.le_trans (HTK.out faces k) (by rw [HFL.out]; exact hfl)) (by simp)
          obtain ⟨fb, fo, rfl, hfb, hfc⟩ := HOV.out.below hbr (by omega)
          have g0 : wr.cell? ⟨fb, fo + k, none⟩ = some (.int .i64 (faces.getD k 0)) := by have := hfc k hlt 0 (by omega); rw [Nat.mul_one, Nat.add_zero] at this; exact this
          clear hfc hz hbr
          generalize faces.getD k 0 = z at *
          generalize terms p ⟨c0, c1, c2⟩ ⟨x0, x1, x2⟩ (faces.take k) [] = L at *
          generalize fpD p z = u at *
          obtain ⟨u0, u1, u2⟩ := u
          dsimp only at HZ
          go_wp2_with (first | (go_at_call 20; refine (HZ.out _ (Below.trans HXR.out (by repeat (first | exact Below.refl _ _ | refine Below.drew ?_ | refine Below.alloc ?_ (by first | exact Nat.le_refl _ | (simp; done) | (simp; omega) | omega) _ | refine Below.more ?_ (by first | exact Nat.le_refl _ | (simp; done) | (simp; omega) | omega) _ _ | refine Below.setCell ?_ (by first | exact Nat.le_refl _ | (simp; done) | (simp; omega) | omega) _ | assumption)))).mono ?_; rintro e wn ⟨rfl, hbn⟩; obtain ⟨X, nX, rfl⟩ := Below.ext hbn; clear hbn) | (at_builtin; go_loud (refine wpList_append_vec _ rfl _ _ rfl wv.heap.size _ L rfl (own_kept HOWN.out (by repeat (first | exact Below.refl _ _ | refine Below.drew ?_ | refine Below.alloc ?_ (by first | exact Nat.le_refl _ | (simp; done) | (simp; omega) | omega) _ | refine Below.more ?_ (by first | exact Nat.le_refl _ | (simp; done) | (simp; omega) | omega) _ _ | refine Below.setCell ?_ (by first | exact Nat.le_refl _ | (simp; done) | (simp; omega) | omega) _ | assumption))) _ 1 rfl ⟨u0, u1, u2⟩ ?a1 ?a2 ?a3 (by omega) ?a4 ?_)))
          case a4 => first | omega | (simp; omega)
          intro v' w' hp' hg' _
          have HP' := Lib.hid hp'
          have HB' := Lib.hid (Below.grown (Below.trans HBR.out (show Below wv.heap.size wr _ from (by repeat (first | exact Below.refl _ _ | refine Below.drew ?_ | refine Below.alloc ?_ (by first | exact Nat.le_refl _ | (simp; done) | (simp; omega) | omega) _ | refine Below.more ?_ (by first | exact Nat.le_refl _ | (simp; done) | (simp; omega) | omega) _ _ | refine Below.setCell ?_ (by first | exact Nat.le_refl _ | (simp; done) | (simp; omega) | omega) _ | assumption)))) hg' (by first | omega | (simp; omega)) (fun b hb => by have := (own_row HOWN.out b hb).1; omega))
          clear hp' hg'
          go_wp2
          refine ⟨⟨k + 1, by omega, by first | rfl | go_num, HB'.out, ?_⟩, by simp only [intOf]; omega⟩
          rw [HT1.out, List.length_append, List.length_singleton]
          exact HP'.out
        · have hk1 : ¬ (k : Int) < (n : Int) := by omega
          have HOW := Lib.hid (show wr.ownsRow wv.heap.size 43 3 u9 (terms p ⟨c0, c1, c2⟩ ⟨x0, x1, x2⟩ faces []).length (vecVals (terms p ⟨c0, c1, c2⟩ ⟨x0, x1, x2⟩ faces [])) from by have h := HOWN.out; rw [show k = n from by omega, HAF.out] at h; exact h)
          clear hbr HOWN HOV HTF HMF HFC2 HTM
          go_wp2_with (go_at_call 53; refine (HNB3.out _ HXR.out).mono ?_; rintro e wn ⟨na, nc, rfl, hon, hbn⟩; have HON := Lib.hid hon; have HBN := Lib.hid hbn; clear hon hbn)
          have hsn := HBN.out.size
          have HB2 := Lib.hid (HBR.out.trans (HBN.out.mono hsr))
          have HOW2 := Lib.hid (own_kept HOW.out HBN.out)
          have HAS := Lib.hid (show Aside wr.heap.size wn.heap.size nl na (intAt N) u9 wn from ⟨HON.out, fun b hb => .inl (HOW.out.lt b hb).2, Nat.le_refl _⟩)
          generalize wr.heap.size = lo at *
          generalize wn.heap.size = hi2 at *
          clear HON HOW HXR
          go_loopw [9, 94] (fun out i wr => ∃ (k : Nat), k ≤ nl ∧ i = .int .i64 k ∧ Below wv.heap.size wv wr ∧ wr.ownsRow wv.heap.size 43 3 out (terms p ⟨c0, c1, c2⟩ ⟨x0, x1, x2⟩ faces (N.take k)).length (vecVals (terms p ⟨c0, c1, c2⟩ ⟨x0, x1, x2⟩ faces (N.take k))) ∧ Aside lo hi2 nl na (intAt N) out wr) (fun _ i _ => nl - (intOf i).toNat)
          case atStart => exact ⟨0, by omega, rfl, HB2.out, HOW2.out, HAS.out⟩
          case round =>
            clear HB2 HOW2 HAS HBN HBR
            obtain ⟨k, hk, rfl, hbr, hown, has⟩ := hrel
            have HOWN := Lib.hid hown
            have HAS := Lib.hid has
            have hsr := hbr.size
            have HBR := Lib.hid hbr
            clear hown has
            by_cases hlt : k < nl
            · have hk1 : (k : Int) < (nl : Int) := by omega
              have hz := HMN.out k hlt
              have HT1 := Lib.hid (show terms p ⟨c0, c1, c2⟩ ⟨x0, x1, x2⟩ faces (N.take (k + 1)) = terms p ⟨c0, c1, c2⟩ ⟨x0, x1, x2⟩ faces (N.take k) ++ [⟨x0, x1, x2⟩, vtx p (N.getD k 0)] from by rw [HTN.out k hlt, terms_nb])
              have hlen := HTL.out ⟨c0, c1, c2⟩ ⟨x0, x1, x2⟩ faces (N.take k) (by rw [HFL.out]; exact hfl) (Nat.le_trans (HTK.out N k) (by rw [HNL.out]; exact hnl))
              obtain ⟨fb, fo, rfl, hfb, hfc⟩ := HAS.out.1.sl (by omega)
              have f0 : wr.cell? ⟨fb, fo + k, none⟩ = some (.int .i64 (N.getD k 0)) := by have := hfc k hlt 0 (by omega); rw [Nat.mul_one, Nat.add_zero] at this; exact this
              obtain ⟨X0, d0, rfl⟩ := Below.ext hbr
              clear hfc hbr
              generalize N.getD k 0 = z at *
              obtain ⟨z, rfl⟩ := Int.eq_ofNat_of_zero_le hz.1
              have hzn := hz.2
              obtain ⟨a0, a1, a2⟩ := HVX2.out z (by omega)
              replace a0 := cell_below HBV.out a0
              replace a1 := cell_below HBV.out a1
              replace a2 := cell_below HBV.out a2
              have hsv := HBV.out.size
              have hbv : b < wv.heap.size := by omega
              generalize terms p ⟨c0, c1, c2⟩ ⟨x0, x1, x2⟩ faces (N.take k) = L at *
              generalize vtx p z = u at *
              obtain ⟨u0, u1, u2⟩ := u
              dsimp only at a0 a1 a2
              obtain ⟨i0, hi, hz0, hz1, hz2⟩ := info_parts info_VecA
              go_wp2
              refine region_app3 7 43 3 _ L.length 2 _ [.int .i64 x0, .int .i64 x1, .int .i64 x2, .int .i64 u0, .int .i64 u1, .int .i64 u2] (by kernel_rfl) (by kernel_rfl) HOWN.out HAS.out ?_
              simp only [List.take_succ_cons, List.take_zero, List.drop_succ_cons, List.drop_zero]
              repeat (refine headS_step (fun K hK => ?_); go_simp; refine hK _ ?_; clear hK K)
              refine headS_nil ?_
              refine tail_app3 (t := 27) _ _ (by go_simp) (fun w => by go_simp) (fun b => by go_simp) rfl Tryz.underlying27 hi hz0 hz1 hz2 rfl (by decide) (fun b => by first | rfl | go_simp) (fun b => by first | rfl | go_simp) rfl ?h1 (by simp only [maxLen]; omega) (by omega) (fun b v' => ?hr)
              case h1 =>
                intro u hu
                simp only [List.mem_cons, List.not_mem_nil, or_false] at hu
                rcases hu with rfl | rfl | rfl | rfl | rfl | rfl <;> rfl
              refine app3_quiet (u := v') (by go_simp) (fun w => by go_simp) ?_
              refine app3_done (fun X1 d1 hown1 has1 => ?_)
              simp only [Act.put, List.setIfInBounds_toArray, List.set_cons_zero, List.set_cons_succ]
              have HP' := Lib.hid hown1
              have HA' := Lib.hid has1
              clear hown1 has1
              go_wp2
              refine ⟨⟨k + 1, by omega, by first | rfl | go_num, (by repeat (first | exact Below.refl _ _ | refine Below.drew ?_ | refine Below.alloc ?_ (by first | exact Nat.le_refl _ | (simp; done) | (simp; omega) | omega) _ | refine Below.more ?_ (by first | exact Nat.le_refl _ | (simp; done) | (simp; omega) | omega) _ _ | refine Below.setCell ?_ (by first | exact Nat.le_refl _ | (simp; done) | (simp; omega) | omega) _ | assumption)), ?_, HA'.out⟩, by simp only [intOf]; omega⟩
              rw [HT1.out, vecVals_two, List.length_append]
              exact HP'.out
            · have hk1 : ¬ (k : Int) < (nl : Int) := by omega
              have hown := HOWN.out
              rw [show k = nl from by omega, HAN.out] at hown
              have hlen := HTL.out ⟨c0, c1, c2⟩ ⟨x0, x1, x2⟩ faces N (by rw [HFL.out]; exact hfl) (by rw [HNL.out]; exact hnl)
              have HB := HBT.out faces N HNF.out HNB2.out
              have e0 := in64_of (sumL_in0 HB hlen (Nat.le_refl _))
              have e1 := in64_of (sumL_in1 HB hlen (Nat.le_refl _))
              have e2 := in64_of (sumL_in2 HB hlen (Nat.le_refl _))
              have HAV := Lib.hid (fun a cap W h => l07SumL_c a cap (terms p ⟨c0, c1, c2⟩ ⟨x0, x1, x2⟩ faces N) (terms p ⟨c0, c1, c2⟩ ⟨x0, x1, x2⟩ faces N).length W HB hlen h)
              rw [sumL_full, HSUM.out] at e0 e1 e2
              rw [sumL_full, sumL_full, sumL_full, HSUM.out, HSUM.out, HSUM.out] at HAV
              dsimp only at e0 e1 e2 HAV
              obtain ⟨ta, tc, rfl, hsl⟩ := sl_vecs hown
              have HSL := Lib.hid hsl
              obtain ⟨m0, m1, r0, r1, r2, z0, z1, z2, b0, b1, b2⟩ := (HV.out.below HBV.out).below HBR.out
              have hwr := World.block_lt_of_cell? _ _ r0
              clear hown hsl HB HOWN HAS hbr
              generalize (terms p ⟨c0, c1, c2⟩ ⟨x0, x1, x2⟩ faces N).length = tl at *
              generalize c0 + sumH (·.f0) p faces + (x0 * (nl : Int) + sumG (·.f0) p N) = y0 at *
              generalize c1 + sumH (·.f1) p faces + (x1 * (nl : Int) + sumG (·.f1) p N) = y1 at *
              generalize c2 + sumH (·.f2) p faces + (x2 * (nl : Int) + sumG (·.f2) p N) = y2 at *
              go_wp2_with (first | (go_at_call 50; refine (HAV.out _ _ _ (HSL.out.below (by repeat (first | exact Below.refl _ _ | refine Below.drew ?_ | refine Below.alloc ?_ (by first | exact Nat.le_refl _ | (simp; done) | (simp; omega) | omega) _ | refine Below.more ?_ (by first | exact Nat.le_refl _ | (simp; done) | (simp; omega) | omega) _ _ | refine Below.setCell ?_ (by first | exact Nat.le_refl _ | (simp; done) | (simp; omega) | omega) _ | assumption)))).mono ?_; rintro e wn ⟨rfl, hbn⟩; obtain ⟨X, nX, rfl⟩ := Below.ext hbn; clear hbn) | (go_at_call 49; refine (HBY.out _ _ _ _ e0 e1 e2).mono ?_; rintro e wn ⟨rfl, hbn⟩; obtain ⟨X, nX, rfl⟩ := Below.ext hbn; clear hbn))
              exact bodyPost_ret (v := vecV (fdivI y0 qq) (fdivI y1 qq) (fdivI y2 qq)) (by simp [results, Tryz.results18, go_sem, r0, r1, r2, hwr]) rfl ⟨by rw [HE.out]; exact congrArg Ending.returned HVE.out.symm, Below.trans (HBX.out.trans ((HBV.out.trans (HBR.out.mono HBV.out.size)).mono HBX.out.size)) (by repeat (first | exact Below.refl _ _ | refine Below.drew ?_ | refine Below.alloc ?_ (by first | exact Nat.le_refl _ | (simp; done) | (simp; omega) | omega) _ | refine Below.more ?_ (by first | exact Nat.le_refl _ | (simp; done) | (simp; omega) | omega) _ _ | refine Below.setCell ?_ (by first | exact Nat.le_refl _ | (simp; done) | (simp; omega) | omega) _ | assumption))⟩
end Go.Proofs.YtpfmcobkfofbjaaGreat
