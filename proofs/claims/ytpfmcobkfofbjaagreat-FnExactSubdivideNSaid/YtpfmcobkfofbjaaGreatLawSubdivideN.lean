/- The walk of the law FnExactSubdivideN. -/
import Derived.Test.YtpfmcobkfofbjaaGreatLawSubdivideNI
import Derived.Test.YtpfmcobkfofbjaaGreatOpen
import Derived.Deep.RegionHeld3
namespace Go.Proofs.YtpfmcobkfofbjaaGreat
open Go.RowKit Go.ChangeShapes
set_option maxRecDepth 100000 in
set_option maxHeartbeats 8000000 in
theorem law_SubdivideN {H : Type} {enc : TypeId × Value → H} {W : World} {base : Nat} {v0 v1 : Value} {d0 d1 : DataW H} {p0 p1 : List MemPlace} 
    (k0 : Value.okWide Tryz.prog W .any base 25 v0) (h0 : DataW.Trod enc Tryz.prog W 0 (fun _ => true) true 25 v0 d0 p0)
    (k1 : Value.okWide Tryz.prog W .any base 3 v1) (h1 : DataW.Trod enc Tryz.prog W 0 (fun _ => true) true 3 v1 d1 p1)
    : Calls Tryz.prog 4 #[v0, v1] W fun e W' => e = .returned (.bool true) ∧ Below W.heap.size W W' := by
  obtain ⟨l0, HS0, hz0⟩ := open_Mesh k0 h0
  have hv := HS0.out
  obtain ⟨pa0, pb0, pc0, pd0, rfl, t1, t2⟩ := hv
  clear t1 t2
  have HZ0 := Lib.hid hz0
  clear hz0
  obtain ⟨x1, rfl, _, _, wf1⟩ := open_int Tryz.underlying3 k1 h1
  clear k0 h0 k1 h1
  obtain ⟨w0, rfl⟩ : ∃ w0, w0 = W := ⟨W, rfl⟩
  have B0 := Below.refl w0.heap.size w0
  have Z0 : w0.heap.size ≤ w0.heap.size := Nat.le_refl _
  go_enter Tryz.func4, Tryz.ntmps4
  go_wp2_with fail
  refine (szMesh_c _ l0 1048576 _ (HS0.out.below (by repeat (first | exact Below.refl _ _ | refine Below.drew ?_ | refine Below.alloc ?_ (by first | exact Nat.le_refl _ | (simp; done) | (simp; omega) | omega) _ | refine Below.more ?_ (by first | exact Nat.le_refl _ | (simp; done) | (simp; omega) | omega) _ _ | refine Below.setCell ?_ (by first | exact Nat.le_refl _ | (simp; done) | (simp; omega) | omega) _ | assumption))) (by omega) (by omega) HZ0.out).mono ?_
  rintro e w1 ⟨r0, rfl, b, hr⟩
  have bb : Below w0.heap.size w0 w1 := (Below.alloc (Below.refl w0.heap.size w0) (Nat.le_refl _) _).trans (b.mono (by simp; try omega))
  have qP0_0 : w1.cell? ⟨w0.heap.size, 0, none⟩ = some (.slice pa0 l0.nV pb0) := (b.cell (p := ⟨w0.heap.size, 0, none⟩) (by simp; try omega)).trans (by simp [go_sem])
  have qP0_1 : w1.cell? ⟨w0.heap.size, 1, none⟩ = some (.slice pc0 l0.nF pd0) := (b.cell (p := ⟨w0.heap.size, 1, none⟩) (by simp; try omega)).trans (by simp [go_sem])
  have sP0 := World.block_lt_of_cell? _ _ qP0_0
  clear b
  have B1 := B0.trans (bb.mono B0.size)
  have Z1 : w0.heap.size ≤ w1.heap.size := B1.size
  have Y1 : w0.heap.size ≤ w1.heap.size := bb.size
  have sP0_1 := World.block_lt_of_cell? _ _ qP0_0
  clear bb
  rcases hr with rfl | ⟨ra0, rb0, rc0⟩
  · go_wp2; go_ret; exact ⟨rfl, B1⟩
  replace rc0 := Lib.hid rc0
  obtain ⟨D, tb, hspec, himpl⟩ : ∃ D tb, (∀ v w, MeshR w v l0 → MeshSz 1048576 l0 → Calls Tryz.prog 12 #[v, .int .i64 x1] w (GivesM D tb w)) ∧ (∀ v w, MeshR w v l0 → MeshSz 1048576 l0 → Calls Tryz.prog 13 #[v, .int .i64 x1] w (GivesM D tb w)) := ⟨_, _, fun v w hr hs => spec_SubdivideN_g v l0 x1 w hr hs, fun v w hr hs => impl_SubdivideN_g v l0 x1 w hr hs⟩
  have Hspec := Lib.hid hspec
  have Himpl := Lib.hid himpl
  clear hspec himpl
  go_wp2_with fail
  refine (toMesh_c _ l0 _ (HS0.out.below (by repeat (first | exact Below.refl _ _ | refine Below.drew ?_ | refine Below.alloc ?_ (by first | exact Nat.le_refl _ | (simp; done) | (simp; omega) | omega) _ | refine Below.more ?_ (by first | exact Nat.le_refl _ | (simp; done) | (simp; omega) | omega) _ _ | refine Below.setCell ?_ (by first | exact Nat.le_refl _ | (simp; done) | (simp; omega) | omega) _ | assumption))) rc0.out).mono ?_
  rintro e w2 ⟨x1_v, rfl, x1_o, b⟩
  replace qP0_0 := cell_below b qP0_0
  replace qP0_1 := cell_below b qP0_1
  have B2 := B1.trans (b.mono B1.size)
  have Z2 : w0.heap.size ≤ w2.heap.size := B2.size
  have Y2 : w1.heap.size ≤ w2.heap.size := b.size
  have sP0_2 := World.block_lt_of_cell? _ _ qP0_0
  clear b
  go_wp2_with fail
  refine (Hspec.out _ _ (x1_o.r.below (by repeat (first | exact Below.refl _ _ | refine Below.drew ?_ | refine Below.alloc ?_ (by first | exact Nat.le_refl _ | (simp; done) | (simp; omega) | omega) _ | refine Below.more ?_ (by first | exact Nat.le_refl _ | (simp; done) | (simp; omega) | omega) _ _ | refine Below.setCell ?_ (by first | exact Nat.le_refl _ | (simp; done) | (simp; omega) | omega) _ | assumption))) rc0.out).mono ?_
  rintro e w3 ⟨x2_v, rfl, x2_o, b⟩
  replace qP0_0 := cell_below b qP0_0
  replace qP0_1 := cell_below b qP0_1
  replace x1_o := x1_o.below b
  have B3 := B2.trans (b.mono B2.size)
  have Z3 : w0.heap.size ≤ w3.heap.size := B3.size
  have Y3 : w2.heap.size ≤ w3.heap.size := b.size
  have sP0_3 := World.block_lt_of_cell? _ _ qP0_0
  clear b
  clear x1_o
  obtain ⟨x2_ra, x2_rb, x2_rc, x2_rd, rfl⟩ := x2_o.form
  have HDZ := Lib.hid (x2_o.sz)
  go_wp2_with fail
  refine (toMesh_c _ l0 _ (HS0.out.below (by repeat (first | exact Below.refl _ _ | refine Below.drew ?_ | refine Below.alloc ?_ (by first | exact Nat.le_refl _ | (simp; done) | (simp; omega) | omega) _ | refine Below.more ?_ (by first | exact Nat.le_refl _ | (simp; done) | (simp; omega) | omega) _ _ | refine Below.setCell ?_ (by first | exact Nat.le_refl _ | (simp; done) | (simp; omega) | omega) _ | assumption))) rc0.out).mono ?_
  rintro e w4 ⟨x3_v, rfl, x3_o, b⟩
  have bb : Below w3.heap.size w3 w4 := (Below.alloc (Below.refl w3.heap.size w3) (Nat.le_refl _) _).trans (b.mono (by simp; try omega))
  replace qP0_0 := cell_below bb qP0_0
  replace qP0_1 := cell_below bb qP0_1
  have qRx2__0 : w4.cell? ⟨w3.heap.size, 0, none⟩ = some (.slice x2_ra D.nV x2_rb) := (b.cell (p := ⟨w3.heap.size, 0, none⟩) (by simp; try omega)).trans (by simp [go_sem])
  have qRx2__1 : w4.cell? ⟨w3.heap.size, 1, none⟩ = some (.slice x2_rc D.nF x2_rd) := (b.cell (p := ⟨w3.heap.size, 1, none⟩) (by simp; try omega)).trans (by simp [go_sem])
  have sRx2_ := World.block_lt_of_cell? _ _ qRx2__0
  replace x3_o := x3_o.wide (lo' := w3.heap.size + 1) (by simp) (Nat.le_refl _)
  clear b
  replace x2_o := x2_o.below bb
  have B4 := B3.trans (bb.mono B3.size)
  have Z4 : w0.heap.size ≤ w4.heap.size := B4.size
  have Y4 : w3.heap.size ≤ w4.heap.size := bb.size
  have sP0_4 := World.block_lt_of_cell? _ _ qP0_0
  have sRx2__4 := World.block_lt_of_cell? _ _ qRx2__0
  clear bb
  have hv := x3_o
  obtain ⟨_, _, x3_va, x3_vb, x3_vc, x3_vd, rfl, t1, t2, t3, t4, t5⟩ := hv
  clear t1 t2 t3 t4 t5
  go_wp2_with fail
  refine (Himpl.out _ _ (x3_o.r.below (by repeat (first | exact Below.refl _ _ | refine Below.drew ?_ | refine Below.alloc ?_ (by first | exact Nat.le_refl _ | (simp; done) | (simp; omega) | omega) _ | refine Below.more ?_ (by first | exact Nat.le_refl _ | (simp; done) | (simp; omega) | omega) _ _ | refine Below.setCell ?_ (by first | exact Nat.le_refl _ | (simp; done) | (simp; omega) | omega) _ | assumption))) rc0.out).mono ?_
  rintro e w5 ⟨x4_v, rfl, x4_o, b⟩
  have bb : Below w4.heap.size w4 w5 := (Below.alloc (Below.refl w4.heap.size w4) (Nat.le_refl _) _).trans (b.mono (by simp; try omega))
  replace qP0_0 := cell_below bb qP0_0
  replace qP0_1 := cell_below bb qP0_1
  replace qRx2__0 := cell_below bb qRx2__0
  replace qRx2__1 := cell_below bb qRx2__1
  have qx3__0 : w5.cell? ⟨w4.heap.size, 0, none⟩ = some (.slice x3_va l0.nV x3_vb) := (b.cell (p := ⟨w4.heap.size, 0, none⟩) (by simp; try omega)).trans (by simp [go_sem])
  have qx3__1 : w5.cell? ⟨w4.heap.size, 1, none⟩ = some (.slice x3_vc l0.nF x3_vd) := (b.cell (p := ⟨w4.heap.size, 1, none⟩) (by simp; try omega)).trans (by simp [go_sem])
  have sx3_ := World.block_lt_of_cell? _ _ qx3__0
  replace x4_o := x4_o.wide (lo' := w4.heap.size + 1) (by simp) (Nat.le_refl _)
  clear b
  replace x2_o := x2_o.below bb
  replace x3_o := x3_o.below bb
  have B5 := B4.trans (bb.mono B4.size)
  have Z5 : w0.heap.size ≤ w5.heap.size := B5.size
  have Y5 : w4.heap.size ≤ w5.heap.size := bb.size
  have sP0_5 := World.block_lt_of_cell? _ _ qP0_0
  have sRx2__5 := World.block_lt_of_cell? _ _ qRx2__0
  have sx3__5 := World.block_lt_of_cell? _ _ qx3__0
  clear bb
  obtain ⟨x4_ra, x4_rb, x4_rc, x4_rd, rfl⟩ := x4_o.form
  go_wp2_with fail
  refine (eqMesh_c _ _ D _ (x4_o.r.below (by repeat (first | exact Below.refl _ _ | refine Below.drew ?_ | refine Below.alloc ?_ (by first | exact Nat.le_refl _ | (simp; done) | (simp; omega) | omega) _ | refine Below.more ?_ (by first | exact Nat.le_refl _ | (simp; done) | (simp; omega) | omega) _ _ | refine Below.setCell ?_ (by first | exact Nat.le_refl _ | (simp; done) | (simp; omega) | omega) _ | assumption))) (x2_o.r.below (by repeat (first | exact Below.refl _ _ | refine Below.drew ?_ | refine Below.alloc ?_ (by first | exact Nat.le_refl _ | (simp; done) | (simp; omega) | omega) _ | refine Below.more ?_ (by first | exact Nat.le_refl _ | (simp; done) | (simp; omega) | omega) _ _ | refine Below.setCell ?_ (by first | exact Nat.le_refl _ | (simp; done) | (simp; omega) | omega) _ | assumption))) HDZ.out).mono ?_
  rintro e w6 ⟨rfl, b⟩
  have bb : Below w5.heap.size w5 w6 := (Below.alloc (Below.refl w5.heap.size w5) (Nat.le_refl _) _).trans (b.mono (by simp; try omega))
  replace qP0_0 := cell_below bb qP0_0
  replace qP0_1 := cell_below bb qP0_1
  replace qRx2__0 := cell_below bb qRx2__0
  replace qRx2__1 := cell_below bb qRx2__1
  replace qx3__0 := cell_below bb qx3__0
  replace qx3__1 := cell_below bb qx3__1
  have qRx4__0 : w6.cell? ⟨w5.heap.size, 0, none⟩ = some (.slice x4_ra D.nV x4_rb) := (b.cell (p := ⟨w5.heap.size, 0, none⟩) (by simp; try omega)).trans (by simp [go_sem])
  have qRx4__1 : w6.cell? ⟨w5.heap.size, 1, none⟩ = some (.slice x4_rc D.nF x4_rd) := (b.cell (p := ⟨w5.heap.size, 1, none⟩) (by simp; try omega)).trans (by simp [go_sem])
  have sRx4_ := World.block_lt_of_cell? _ _ qRx4__0
  clear b
  replace x2_o := x2_o.below bb
  replace x3_o := x3_o.below bb
  replace x4_o := x4_o.below bb
  have B6 := B5.trans (bb.mono B5.size)
  have Z6 : w0.heap.size ≤ w6.heap.size := B6.size
  have Y6 : w5.heap.size ≤ w6.heap.size := bb.size
  have sP0_6 := World.block_lt_of_cell? _ _ qP0_0
  have sRx2__6 := World.block_lt_of_cell? _ _ qRx2__0
  have sx3__6 := World.block_lt_of_cell? _ _ qx3__0
  have sRx4__6 := World.block_lt_of_cell? _ _ qRx4__0
  clear bb
  have yx3_ := World.block_lt_of_cell? _ _ qx3__0
  have yP0 := World.block_lt_of_cell? _ _ qP0_0
  go_wp2
  go_region_held3 (fun w' => (w'.cell? ⟨w4.heap.size, 0, none⟩ = some (.slice x3_va l0.nV x3_vb) ∧ w'.cell? ⟨w4.heap.size, 1, none⟩ = some (.slice x3_vc l0.nF x3_vd)) ∧ (w'.cell? ⟨w0.heap.size, 0, none⟩ = some (.slice pa0 l0.nV pb0) ∧ w'.cell? ⟨w0.heap.size, 1, none⟩ = some (.slice pc0 l0.nF pd0))) (go_keep) (first | (go_at_call_of 7 pa0; refine (toMesh_c _ l0 _ (HS0.out.below (by repeat (first | exact Below.refl _ _ | refine Below.drew ?_ | refine Below.alloc ?_ (by first | exact Nat.le_refl _ | (simp; done) | (simp; omega) | omega) _ | refine Below.more ?_ (by first | exact Nat.le_refl _ | (simp; done) | (simp; omega) | omega) _ _ | refine Below.setCell ?_ (by first | exact Nat.le_refl _ | (simp; done) | (simp; omega) | omega) _ | assumption))) rc0.out).mono ?_; rintro e w7 ⟨x5_v, rfl, x5_o, b⟩; have bb7 : Below w6.heap.size w6 w7 := (by first | exact b | exact (Below.drew (Below.refl _ _)).trans (b.mono (by simp))); clear b; have B7 := B6.trans (bb7.mono B6.size); have Y7 := bb7.size; have Z7 : w0.heap.size ≤ w7.heap.size := B7.size; have qx3__0_7 := cell_below bb7 qx3__0; have qx3__1_7 := cell_below bb7 qx3__1; have qP0_0_7 := cell_below bb7 qP0_0; have qP0_1_7 := cell_below bb7 qP0_1; replace x3_o := x3_o.below bb7) | (go_at_call 9; refine (eqMesh_c _ _ l0 _ (x3_o.r.below (by repeat (first | exact Below.refl _ _ | refine Below.drew ?_ | refine Below.alloc ?_ (by first | exact Nat.le_refl _ | (simp; done) | (simp; omega) | omega) _ | refine Below.more ?_ (by first | exact Nat.le_refl _ | (simp; done) | (simp; omega) | omega) _ _ | refine Below.setCell ?_ (by first | exact Nat.le_refl _ | (simp; done) | (simp; omega) | omega) _ | assumption))) x5_o.r rc0.out).mono ?_; rintro e w8 ⟨rfl, b⟩; have bb8 : Below w7.heap.size w7 w8 := (by first | exact b | exact (Below.drew (Below.refl _ _)).trans (b.mono (by simp))); clear b; have B8 := B7.trans (bb8.mono B7.size); have Y8 := bb8.size; have Z8 : w0.heap.size ≤ w8.heap.size := B8.size; have qx3__0_8 := cell_below bb8 qx3__0_7; have qx3__1_8 := cell_below bb8 qx3__1_7; have qP0_0_8 := cell_below bb8 qP0_0_7; have qP0_1_8 := cell_below bb8 qP0_1_7; replace x3_o := x3_o.below bb8))
  have bb : Below w6.heap.size w6 w8 := (bb7.trans (bb8.mono (by omega)))
  replace qP0_0 := cell_below bb qP0_0
  replace qP0_1 := cell_below bb qP0_1
  clear qP0_0_7 qP0_0_8 qP0_1_7 qP0_1_8
  replace qRx2__0 := cell_below bb qRx2__0
  replace qRx2__1 := cell_below bb qRx2__1
  replace qx3__0 := cell_below bb qx3__0
  replace qx3__1 := cell_below bb qx3__1
  clear qx3__0_7 qx3__0_8 qx3__1_7 qx3__1_8
  replace qRx4__0 := cell_below bb qRx4__0
  replace qRx4__1 := cell_below bb qRx4__1
  clear bb
  replace x2_o := x2_o.below (bb7.trans (bb8.mono (by omega)))
  replace x4_o := x4_o.below (bb7.trans (bb8.mono (by omega)))
  clear x5_o bb7 bb8
  go_wp2_with fail
  refine (markMesh_c _ l0 1 (w3.heap.size + 1) w4.heap.size _ x3_o rc0.out (by omega) (by omega)).mono ?_
  rintro e w9 ⟨m0, rfl, g⟩
  replace qP0_0 := cell_chg g (by first | exact .inl (by omega) | exact .inr (by omega)) qP0_0
  replace qP0_1 := cell_chg g (by first | exact .inl (by omega) | exact .inr (by omega)) qP0_1
  replace qRx2__0 := cell_chg g (by first | exact .inl (by omega) | exact .inr (by omega)) qRx2__0
  replace qRx2__1 := cell_chg g (by first | exact .inl (by omega) | exact .inr (by omega)) qRx2__1
  replace qx3__0 := cell_chg g (by first | exact .inl (by omega) | exact .inr (by omega)) qx3__0
  replace qx3__1 := cell_chg g (by first | exact .inl (by omega) | exact .inr (by omega)) qx3__1
  replace qRx4__0 := cell_chg g (by first | exact .inl (by omega) | exact .inr (by omega)) qRx4__0
  replace qRx4__1 := cell_chg g (by first | exact .inl (by omega) | exact .inr (by omega)) qRx4__1
  replace x2_o := x2_o.chg g (by omega)
  replace x4_o := x4_o.chg g (by omega)
  have B9 := Below.chg B8 g (by omega) B8.size
  have Z9 : w0.heap.size ≤ w9.heap.size := B9.size
  have Y9 : w8.heap.size ≤ w9.heap.size := g.size
  have sP0_9 := World.block_lt_of_cell? _ _ qP0_0
  have sRx2__9 := World.block_lt_of_cell? _ _ qRx2__0
  have sx3__9 := World.block_lt_of_cell? _ _ qx3__0
  have sRx4__9 := World.block_lt_of_cell? _ _ qRx4__0
  clear g
  go_wp2_with fail
  refine (eqMesh_c _ _ D _ (x4_o.r.below (by repeat (first | exact Below.refl _ _ | refine Below.drew ?_ | refine Below.alloc ?_ (by first | exact Nat.le_refl _ | (simp; done) | (simp; omega) | omega) _ | refine Below.more ?_ (by first | exact Nat.le_refl _ | (simp; done) | (simp; omega) | omega) _ _ | refine Below.setCell ?_ (by first | exact Nat.le_refl _ | (simp; done) | (simp; omega) | omega) _ | assumption))) (x2_o.r.below (by repeat (first | exact Below.refl _ _ | refine Below.drew ?_ | refine Below.alloc ?_ (by first | exact Nat.le_refl _ | (simp; done) | (simp; omega) | omega) _ | refine Below.more ?_ (by first | exact Nat.le_refl _ | (simp; done) | (simp; omega) | omega) _ _ | refine Below.setCell ?_ (by first | exact Nat.le_refl _ | (simp; done) | (simp; omega) | omega) _ | assumption))) HDZ.out).mono ?_
  rintro e w10 ⟨rfl, b⟩
  replace qP0_0 := cell_below b qP0_0
  replace qP0_1 := cell_below b qP0_1
  replace qRx2__0 := cell_below b qRx2__0
  replace qRx2__1 := cell_below b qRx2__1
  replace qx3__0 := cell_below b qx3__0
  replace qx3__1 := cell_below b qx3__1
  replace qRx4__0 := cell_below b qRx4__0
  replace qRx4__1 := cell_below b qRx4__1
  replace x2_o := x2_o.below b
  replace x4_o := x4_o.below b
  have B10 := B9.trans (b.mono B9.size)
  have Z10 : w0.heap.size ≤ w10.heap.size := B10.size
  have Y10 : w9.heap.size ≤ w10.heap.size := b.size
  have sP0_10 := World.block_lt_of_cell? _ _ qP0_0
  have sRx2__10 := World.block_lt_of_cell? _ _ qRx2__0
  have sx3__10 := World.block_lt_of_cell? _ _ qx3__0
  have sRx4__10 := World.block_lt_of_cell? _ _ qRx4__0
  clear b
  go_wp2_with fail
  refine (markMeshX_c _ D 1 (w4.heap.size + 1) w5.heap.size _ x4_o (by omega) (by omega)).mono ?_
  rintro e w11 ⟨rfl, x4_o2, g⟩
  replace qP0_0 := cell_chg g (by first | exact .inl (by omega) | exact .inr (by omega)) qP0_0
  replace qP0_1 := cell_chg g (by first | exact .inl (by omega) | exact .inr (by omega)) qP0_1
  replace qRx2__0 := cell_chg g (by first | exact .inl (by omega) | exact .inr (by omega)) qRx2__0
  replace qRx2__1 := cell_chg g (by first | exact .inl (by omega) | exact .inr (by omega)) qRx2__1
  replace qx3__0 := cell_chg g (by first | exact .inl (by omega) | exact .inr (by omega)) qx3__0
  replace qx3__1 := cell_chg g (by first | exact .inl (by omega) | exact .inr (by omega)) qx3__1
  replace qRx4__0 := cell_chg g (by first | exact .inl (by omega) | exact .inr (by omega)) qRx4__0
  replace qRx4__1 := cell_chg g (by first | exact .inl (by omega) | exact .inr (by omega)) qRx4__1
  replace x2_o := x2_o.chg g (by omega)
  have B11 := Below.chg B10 g (by omega) B10.size
  have Z11 : w0.heap.size ≤ w11.heap.size := B11.size
  have Y11 : w10.heap.size ≤ w11.heap.size := g.size
  have sP0_11 := World.block_lt_of_cell? _ _ qP0_0
  have sRx2__11 := World.block_lt_of_cell? _ _ qRx2__0
  have sx3__11 := World.block_lt_of_cell? _ _ qx3__0
  have sRx4__11 := World.block_lt_of_cell? _ _ qRx4__0
  clear g
  go_wp2_with fail
  refine (heldMeshX_c _ D 1 (w4.heap.size + 1) w5.heap.size _ x4_o2 (by omega)).mono ?_
  rintro e w12 ⟨rfl, b⟩
  replace qP0_0 := cell_below b qP0_0
  replace qP0_1 := cell_below b qP0_1
  replace qRx2__0 := cell_below b qRx2__0
  replace qRx2__1 := cell_below b qRx2__1
  replace qx3__0 := cell_below b qx3__0
  replace qx3__1 := cell_below b qx3__1
  replace qRx4__0 := cell_below b qRx4__0
  replace qRx4__1 := cell_below b qRx4__1
  replace x2_o := x2_o.below b
  replace x4_o2 := x4_o2.below b
  have B12 := B11.trans (b.mono B11.size)
  have Z12 : w0.heap.size ≤ w12.heap.size := B12.size
  have Y12 : w11.heap.size ≤ w12.heap.size := b.size
  have sP0_12 := World.block_lt_of_cell? _ _ qP0_0
  have sRx2__12 := World.block_lt_of_cell? _ _ qRx2__0
  have sx3__12 := World.block_lt_of_cell? _ _ qx3__0
  have sRx4__12 := World.block_lt_of_cell? _ _ qRx4__0
  clear b
  go_wp2_with fail
  refine (toMesh_c _ l0 _ (HS0.out.below (by repeat (first | exact Below.refl _ _ | refine Below.drew ?_ | refine Below.alloc ?_ (by first | exact Nat.le_refl _ | (simp; done) | (simp; omega) | omega) _ | refine Below.more ?_ (by first | exact Nat.le_refl _ | (simp; done) | (simp; omega) | omega) _ _ | refine Below.setCell ?_ (by first | exact Nat.le_refl _ | (simp; done) | (simp; omega) | omega) _ | assumption))) rc0.out).mono ?_
  rintro e w13 ⟨x6_v, rfl, x6_o, b⟩
  replace qP0_0 := cell_below b qP0_0
  replace qP0_1 := cell_below b qP0_1
  replace qRx2__0 := cell_below b qRx2__0
  replace qRx2__1 := cell_below b qRx2__1
  replace qx3__0 := cell_below b qx3__0
  replace qx3__1 := cell_below b qx3__1
  replace qRx4__0 := cell_below b qRx4__0
  replace qRx4__1 := cell_below b qRx4__1
  replace x2_o := x2_o.below b
  replace x4_o2 := x4_o2.below b
  have B13 := B12.trans (b.mono B12.size)
  have Z13 : w0.heap.size ≤ w13.heap.size := B13.size
  have Y13 : w12.heap.size ≤ w13.heap.size := b.size
  have sP0_13 := World.block_lt_of_cell? _ _ qP0_0
  have sRx2__13 := World.block_lt_of_cell? _ _ qRx2__0
  have sx3__13 := World.block_lt_of_cell? _ _ qx3__0
  have sRx4__13 := World.block_lt_of_cell? _ _ qRx4__0
  clear b
  go_wp2_with fail
  refine (Himpl.out _ _ (x6_o.r.below (by repeat (first | exact Below.refl _ _ | refine Below.drew ?_ | refine Below.alloc ?_ (by first | exact Nat.le_refl _ | (simp; done) | (simp; omega) | omega) _ | refine Below.more ?_ (by first | exact Nat.le_refl _ | (simp; done) | (simp; omega) | omega) _ _ | refine Below.setCell ?_ (by first | exact Nat.le_refl _ | (simp; done) | (simp; omega) | omega) _ | assumption))) rc0.out).mono ?_
  rintro e w14 ⟨x7_v, rfl, x7_o, b⟩
  replace qP0_0 := cell_below b qP0_0
  replace qP0_1 := cell_below b qP0_1
  replace qRx2__0 := cell_below b qRx2__0
  replace qRx2__1 := cell_below b qRx2__1
  replace qx3__0 := cell_below b qx3__0
  replace qx3__1 := cell_below b qx3__1
  replace qRx4__0 := cell_below b qRx4__0
  replace qRx4__1 := cell_below b qRx4__1
  replace x2_o := x2_o.below b
  replace x4_o2 := x4_o2.below b
  replace x6_o := x6_o.below b
  have B14 := B13.trans (b.mono B13.size)
  have Z14 : w0.heap.size ≤ w14.heap.size := B14.size
  have Y14 : w13.heap.size ≤ w14.heap.size := b.size
  have sP0_14 := World.block_lt_of_cell? _ _ qP0_0
  have sRx2__14 := World.block_lt_of_cell? _ _ qRx2__0
  have sx3__14 := World.block_lt_of_cell? _ _ qx3__0
  have sRx4__14 := World.block_lt_of_cell? _ _ qRx4__0
  clear b
  clear x6_o
  obtain ⟨x7_ra, x7_rb, x7_rc, x7_rd, rfl⟩ := x7_o.form
  go_wp2_with fail
  refine (eqMesh_c _ _ D _ (x7_o.r.below (by repeat (first | exact Below.refl _ _ | refine Below.drew ?_ | refine Below.alloc ?_ (by first | exact Nat.le_refl _ | (simp; done) | (simp; omega) | omega) _ | refine Below.more ?_ (by first | exact Nat.le_refl _ | (simp; done) | (simp; omega) | omega) _ _ | refine Below.setCell ?_ (by first | exact Nat.le_refl _ | (simp; done) | (simp; omega) | omega) _ | assumption))) (x2_o.r.below (by repeat (first | exact Below.refl _ _ | refine Below.drew ?_ | refine Below.alloc ?_ (by first | exact Nat.le_refl _ | (simp; done) | (simp; omega) | omega) _ | refine Below.more ?_ (by first | exact Nat.le_refl _ | (simp; done) | (simp; omega) | omega) _ _ | refine Below.setCell ?_ (by first | exact Nat.le_refl _ | (simp; done) | (simp; omega) | omega) _ | assumption))) HDZ.out).mono ?_
  rintro e w15 ⟨rfl, b⟩
  have bb : Below w14.heap.size w14 w15 := (Below.alloc (Below.refl w14.heap.size w14) (Nat.le_refl _) _).trans (b.mono (by simp; try omega))
  replace qP0_0 := cell_below bb qP0_0
  replace qP0_1 := cell_below bb qP0_1
  replace qRx2__0 := cell_below bb qRx2__0
  replace qRx2__1 := cell_below bb qRx2__1
  replace qx3__0 := cell_below bb qx3__0
  replace qx3__1 := cell_below bb qx3__1
  replace qRx4__0 := cell_below bb qRx4__0
  replace qRx4__1 := cell_below bb qRx4__1
  have qRx7__0 : w15.cell? ⟨w14.heap.size, 0, none⟩ = some (.slice x7_ra D.nV x7_rb) := (b.cell (p := ⟨w14.heap.size, 0, none⟩) (by simp; try omega)).trans (by simp [go_sem])
  have qRx7__1 : w15.cell? ⟨w14.heap.size, 1, none⟩ = some (.slice x7_rc D.nF x7_rd) := (b.cell (p := ⟨w14.heap.size, 1, none⟩) (by simp; try omega)).trans (by simp [go_sem])
  have sRx7_ := World.block_lt_of_cell? _ _ qRx7__0
  clear b
  replace x2_o := x2_o.below bb
  replace x4_o2 := x4_o2.below bb
  replace x7_o := x7_o.below bb
  have B15 := B14.trans (bb.mono B14.size)
  have Z15 : w0.heap.size ≤ w15.heap.size := B15.size
  have Y15 : w14.heap.size ≤ w15.heap.size := bb.size
  have sP0_15 := World.block_lt_of_cell? _ _ qP0_0
  have sRx2__15 := World.block_lt_of_cell? _ _ qRx2__0
  have sx3__15 := World.block_lt_of_cell? _ _ qx3__0
  have sRx4__15 := World.block_lt_of_cell? _ _ qRx4__0
  have sRx7__15 := World.block_lt_of_cell? _ _ qRx7__0
  clear bb
  go_wp2_with fail
  refine (heldMeshX_c _ D 1 (w4.heap.size + 1) w5.heap.size _ x4_o2 (by omega)).mono ?_
  rintro e w16 ⟨rfl, b⟩
  replace qP0_0 := cell_below b qP0_0
  replace qP0_1 := cell_below b qP0_1
  replace qRx2__0 := cell_below b qRx2__0
  replace qRx2__1 := cell_below b qRx2__1
  replace qx3__0 := cell_below b qx3__0
  replace qx3__1 := cell_below b qx3__1
  replace qRx4__0 := cell_below b qRx4__0
  replace qRx4__1 := cell_below b qRx4__1
  replace qRx7__0 := cell_below b qRx7__0
  replace qRx7__1 := cell_below b qRx7__1
  replace x2_o := x2_o.below b
  replace x4_o2 := x4_o2.below b
  replace x7_o := x7_o.below b
  have B16 := B15.trans (b.mono B15.size)
  have Z16 : w0.heap.size ≤ w16.heap.size := B16.size
  have Y16 : w15.heap.size ≤ w16.heap.size := b.size
  have sP0_16 := World.block_lt_of_cell? _ _ qP0_0
  have sRx2__16 := World.block_lt_of_cell? _ _ qRx2__0
  have sx3__16 := World.block_lt_of_cell? _ _ qx3__0
  have sRx4__16 := World.block_lt_of_cell? _ _ qRx4__0
  have sRx7__16 := World.block_lt_of_cell? _ _ qRx7__0
  clear b
  go_wp2
  go_ret
  exact ⟨rfl, B16⟩
end Go.Proofs.YtpfmcobkfofbjaaGreat
