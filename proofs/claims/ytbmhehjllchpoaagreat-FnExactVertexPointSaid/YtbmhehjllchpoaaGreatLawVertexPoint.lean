/- The walk of the law FnExactVertexPoint. -/
import Derived.Test.YtbmhehjllchpoaaGreatVertexPointS
import Derived.Test.YtbmhehjllchpoaaGreatOpen
import Derived.Deep.RegionHeld3
set_option linter.unusedSimpArgs false
set_option linter.unusedVariables false
namespace Go.Proofs.YtbmhehjllchpoaaGreat
open Go.RowKit Go.ChangeShapes
set_option maxRecDepth 100000 in
set_option maxHeartbeats 8000000 in
theorem law_VertexPoint {H : Type} {enc : TypeId × Value → H} {W : World} {base : Nat} {v0 v1 : Value} {d0 d1 : DataW H} {p0 p1 : List MemPlace}
    (k0 : Value.okWide Tryz.prog W .any base 25 v0) (h0 : DataW.Trod enc Tryz.prog W 0 (fun _ => true) true 25 v0 d0 p0)
    (k1 : Value.okWide Tryz.prog W .any base 3 v1) (h1 : DataW.Trod enc Tryz.prog W 0 (fun _ => true) true 3 v1 d1 p1)
    : Calls Tryz.prog 3 #[v0, v1] W fun e W' => e = .returned (.bool true) ∧ Below W.heap.size W W' := by
  obtain ⟨l0, HS0, hz0⟩ := open_Mesh k0 h0
  have hv := HS0.out
  obtain ⟨pa0, pb0, pc0, pd0, rfl, t1, t2⟩ := hv
  clear t1 t2
  have HZ0 := Lib.hid hz0
  clear hz0
  obtain ⟨x1, rfl, _, _, wf1⟩ := open_int Tryz.underlying3 k1 h1
  clear k0 h0 k1 h1
  obtain ⟨w0, rfl⟩ : ∃ w0, w0 = W := ⟨W, rfl⟩
  have B0 := Below.refl w0.heap.size w0
  have Z0 : w0.heap.size ≤ w0.heap.size := Nat.le_refl _
  go_enter Tryz.func3, Tryz.ntmps3
  go_wp2_with fail
  refine (szMesh_c _ l0 1048576 _ (HS0.out.below (by repeat (first | exact Below.refl _ _ | refine Below.drew ?_ | refine Below.alloc ?_ (by first | exact Nat.le_refl _ | (simp; done) | (simp; omega) | omega) _ | refine Below.more ?_ (by first | exact Nat.le_refl _ | (simp; done) | (simp; omega) | omega) _ _ | refine Below.setCell ?_ (by first | exact Nat.le_refl _ | (simp; done) | (simp; omega) | omega) _ | assumption))) (by omega) (by omega) HZ0.out).mono ?_
  rintro e w1 ⟨r0, rfl, b, hr⟩
  have bb : Below w0.heap.size w0 w1 := (Below.alloc (Below.refl w0.heap.size w0) (Nat.le_refl _) _).trans (b.mono (by simp; try omega))
  have qP0_0 : w1.cell? ⟨w0.heap.size, 0, none⟩ = some (.slice pa0 l0.nV pb0) := (b.cell (p := ⟨w0.heap.size, 0, none⟩) (by simp; try omega)).trans (by simp [go_sem])
  have qP0_1 : w1.cell? ⟨w0.heap.size, 1, none⟩ = some (.slice pc0 l0.nF pd0) := (b.cell (p := ⟨w0.heap.size, 1, none⟩) (by simp; try omega)).trans (by simp [go_sem])
  have sP0 := World.block_lt_of_cell? _ _ qP0_0
  clear b
  have B1 := B0.trans (bb.mono B0.size)
  have Z1 : w0.heap.size ≤ w1.heap.size := B1.size
  have Y1 : w0.heap.size ≤ w1.heap.size := bb.size
  have sP0_1 := World.block_lt_of_cell? _ _ qP0_0
  clear bb
  rcases hr with rfl | ⟨ra0, rb0, rc0⟩
  · go_wp2; go_ret; exact ⟨rfl, B1⟩
  replace rc0 := Lib.hid rc0
  obtain ⟨fx, fy, fz, hfp⟩ := vpR_vec l0 x1
  have HFP := Lib.hid hfp
  clear hfp
  go_wp2_with fail
  refine (toMesh_c _ l0 _ (HS0.out.below (by repeat (first | exact Below.refl _ _ | refine Below.drew ?_ | refine Below.alloc ?_ (by first | exact Nat.le_refl _ | (simp; done) | (simp; omega) | omega) _ | refine Below.more ?_ (by first | exact Nat.le_refl _ | (simp; done) | (simp; omega) | omega) _ _ | refine Below.setCell ?_ (by first | exact Nat.le_refl _ | (simp; done) | (simp; omega) | omega) _ | assumption))) rc0.out).mono ?_
  rintro e w2 ⟨x1_v, rfl, x1_o, b⟩
  replace qP0_0 := cell_below b qP0_0
  replace qP0_1 := cell_below b qP0_1
  have B2 := B1.trans (b.mono B1.size)
  have Z2 : w0.heap.size ≤ w2.heap.size := B2.size
  have Y2 : w1.heap.size ≤ w2.heap.size := b.size
  have sP0_2 := World.block_lt_of_cell? _ _ qP0_0
  clear b
  go_wp2_with fail
  refine (spec_VertexPoint_c _ l0 x1 _ (x1_o.r.below (by repeat (first | exact Below.refl _ _ | refine Below.drew ?_ | refine Below.alloc ?_ (by first | exact Nat.le_refl _ | (simp; done) | (simp; omega) | omega) _ | refine Below.more ?_ (by first | exact Nat.le_refl _ | (simp; done) | (simp; omega) | omega) _ _ | refine Below.setCell ?_ (by first | exact Nat.le_refl _ | (simp; done) | (simp; omega) | omega) _ | assumption))) rc0.out).mono ?_
  rw [HFP.out]
  rintro e w3 ⟨rfl, b⟩
  replace qP0_0 := cell_below b qP0_0
  replace qP0_1 := cell_below b qP0_1
  replace x1_o := x1_o.below b
  have B3 := B2.trans (b.mono B2.size)
  have Z3 : w0.heap.size ≤ w3.heap.size := B3.size
  have Y3 : w2.heap.size ≤ w3.heap.size := b.size
  have sP0_3 := World.block_lt_of_cell? _ _ qP0_0
  clear b
  clear x1_o
  go_wp2_with fail
  refine (toMesh_c _ l0 _ (HS0.out.below (by repeat (first | exact Below.refl _ _ | refine Below.drew ?_ | refine Below.alloc ?_ (by first | exact Nat.le_refl _ | (simp; done) | (simp; omega) | omega) _ | refine Below.more ?_ (by first | exact Nat.le_refl _ | (simp; done) | (simp; omega) | omega) _ _ | refine Below.setCell ?_ (by first | exact Nat.le_refl _ | (simp; done) | (simp; omega) | omega) _ | assumption))) rc0.out).mono ?_
  rintro e w4 ⟨x3_v, rfl, x3_o, b⟩
  have bb : Below w3.heap.size w3 w4 := (Below.alloc (Below.refl w3.heap.size w3) (Nat.le_refl _) _).trans (b.mono (by simp; try omega))
  replace qP0_0 := cell_below bb qP0_0
  replace qP0_1 := cell_below bb qP0_1
  have qRs_0 : w4.cell? ⟨w3.heap.size, 0, none⟩ = some (.int .i64 fx) := (b.cell (p := ⟨w3.heap.size, 0, none⟩) (by simp; try omega)).trans (by simp [go_sem])
  have qRs_1 : w4.cell? ⟨w3.heap.size, 1, none⟩ = some (.int .i64 fy) := (b.cell (p := ⟨w3.heap.size, 1, none⟩) (by simp; try omega)).trans (by simp [go_sem])
  have qRs_2 : w4.cell? ⟨w3.heap.size, 2, none⟩ = some (.int .i64 fz) := (b.cell (p := ⟨w3.heap.size, 2, none⟩) (by simp; try omega)).trans (by simp [go_sem])
  have sRs := World.block_lt_of_cell? _ _ qRs_0
  replace x3_o := x3_o.wide (lo' := w3.heap.size + 1) (by simp) (Nat.le_refl _)
  clear b
  have B4 := B3.trans (bb.mono B3.size)
  have Z4 : w0.heap.size ≤ w4.heap.size := B4.size
  have Y4 : w3.heap.size ≤ w4.heap.size := bb.size
  have sP0_4 := World.block_lt_of_cell? _ _ qP0_0
  have sRs_4 := World.block_lt_of_cell? _ _ qRs_0
  clear bb
  have hv := x3_o
  obtain ⟨_, _, x3_va, x3_vb, x3_vc, x3_vd, rfl, t1, t2, t3, t4, t5⟩ := hv
  clear t1 t2 t3 t4 t5
  go_wp2_with fail
  refine (impl_VertexPoint_c _ l0 x1 _ (x3_o.r.below (by repeat (first | exact Below.refl _ _ | refine Below.drew ?_ | refine Below.alloc ?_ (by first | exact Nat.le_refl _ | (simp; done) | (simp; omega) | omega) _ | refine Below.more ?_ (by first | exact Nat.le_refl _ | (simp; done) | (simp; omega) | omega) _ _ | refine Below.setCell ?_ (by first | exact Nat.le_refl _ | (simp; done) | (simp; omega) | omega) _ | assumption))) rc0.out).mono ?_
  rw [HFP.out]
  rintro e w5 ⟨rfl, b⟩
  have bb : Below w4.heap.size w4 w5 := (Below.alloc (Below.refl w4.heap.size w4) (Nat.le_refl _) _).trans (b.mono (by simp; try omega))
  replace qP0_0 := cell_below bb qP0_0
  replace qP0_1 := cell_below bb qP0_1
  replace qRs_0 := cell_below bb qRs_0
  replace qRs_1 := cell_below bb qRs_1
  replace qRs_2 := cell_below bb qRs_2
  have qx3__0 : w5.cell? ⟨w4.heap.size, 0, none⟩ = some (.slice x3_va l0.nV x3_vb) := (b.cell (p := ⟨w4.heap.size, 0, none⟩) (by simp; try omega)).trans (by simp [go_sem])
  have qx3__1 : w5.cell? ⟨w4.heap.size, 1, none⟩ = some (.slice x3_vc l0.nF x3_vd) := (b.cell (p := ⟨w4.heap.size, 1, none⟩) (by simp; try omega)).trans (by simp [go_sem])
  have sx3_ := World.block_lt_of_cell? _ _ qx3__0
  clear b
  replace x3_o := x3_o.below bb
  have B5 := B4.trans (bb.mono B4.size)
  have Z5 : w0.heap.size ≤ w5.heap.size := B5.size
  have Y5 : w4.heap.size ≤ w5.heap.size := bb.size
  have sP0_5 := World.block_lt_of_cell? _ _ qP0_0
  have sRs_5 := World.block_lt_of_cell? _ _ qRs_0
  have sx3__5 := World.block_lt_of_cell? _ _ qx3__0
  clear bb
  go_wp2_with fail
  refine (eqVec_c ⟨fx, fy, fz⟩ _).mono ?_
  rintro e w6 ⟨rfl, b⟩
  have bb : Below w5.heap.size w5 w6 := (Below.alloc (Below.refl w5.heap.size w5) (Nat.le_refl _) _).trans (b.mono (by simp; try omega))
  replace qP0_0 := cell_below bb qP0_0
  replace qP0_1 := cell_below bb qP0_1
  replace qRs_0 := cell_below bb qRs_0
  replace qRs_1 := cell_below bb qRs_1
  replace qRs_2 := cell_below bb qRs_2
  replace qx3__0 := cell_below bb qx3__0
  replace qx3__1 := cell_below bb qx3__1
  have qRi_0 : w6.cell? ⟨w5.heap.size, 0, none⟩ = some (.int .i64 fx) := (b.cell (p := ⟨w5.heap.size, 0, none⟩) (by simp; try omega)).trans (by simp [go_sem])
  have qRi_1 : w6.cell? ⟨w5.heap.size, 1, none⟩ = some (.int .i64 fy) := (b.cell (p := ⟨w5.heap.size, 1, none⟩) (by simp; try omega)).trans (by simp [go_sem])
  have qRi_2 : w6.cell? ⟨w5.heap.size, 2, none⟩ = some (.int .i64 fz) := (b.cell (p := ⟨w5.heap.size, 2, none⟩) (by simp; try omega)).trans (by simp [go_sem])
  have sRi := World.block_lt_of_cell? _ _ qRi_0
  clear b
  replace x3_o := x3_o.below bb
  have B6 := B5.trans (bb.mono B5.size)
  have Z6 : w0.heap.size ≤ w6.heap.size := B6.size
  have Y6 : w5.heap.size ≤ w6.heap.size := bb.size
  have sP0_6 := World.block_lt_of_cell? _ _ qP0_0
  have sRs_6 := World.block_lt_of_cell? _ _ qRs_0
  have sx3__6 := World.block_lt_of_cell? _ _ qx3__0
  have sRi_6 := World.block_lt_of_cell? _ _ qRi_0
  clear bb
  have yx3_ := World.block_lt_of_cell? _ _ qx3__0
  have yP0 := World.block_lt_of_cell? _ _ qP0_0
  go_wp2
  go_region_held3 (fun w' => (w'.cell? ⟨w4.heap.size, 0, none⟩ = some (.slice x3_va l0.nV x3_vb) ∧ w'.cell? ⟨w4.heap.size, 1, none⟩ = some (.slice x3_vc l0.nF x3_vd)) ∧ (w'.cell? ⟨w0.heap.size, 0, none⟩ = some (.slice pa0 l0.nV pb0) ∧ w'.cell? ⟨w0.heap.size, 1, none⟩ = some (.slice pc0 l0.nF pd0))) (go_keep) (first | (go_at_call_of 6 pa0; refine (toMesh_c _ l0 _ (HS0.out.below (by repeat (first | exact Below.refl _ _ | refine Below.drew ?_ | refine Below.alloc ?_ (by first | exact Nat.le_refl _ | (simp; done) | (simp; omega) | omega) _ | refine Below.more ?_ (by first | exact Nat.le_refl _ | (simp; done) | (simp; omega) | omega) _ _ | refine Below.setCell ?_ (by first | exact Nat.le_refl _ | (simp; done) | (simp; omega) | omega) _ | assumption))) rc0.out).mono ?_; rintro e w7 ⟨x5_v, rfl, x5_o, b⟩; have bb7 : Below w6.heap.size w6 w7 := (by first | exact b | exact (Below.drew (Below.refl _ _)).trans (b.mono (by simp))); clear b; have B7 := B6.trans (bb7.mono B6.size); have Y7 := bb7.size; have Z7 : w0.heap.size ≤ w7.heap.size := B7.size; have qx3__0_7 := cell_below bb7 qx3__0; have qx3__1_7 := cell_below bb7 qx3__1; have qP0_0_7 := cell_below bb7 qP0_0; have qP0_1_7 := cell_below bb7 qP0_1; replace x3_o := x3_o.below bb7) | (go_at_call 9; refine (eqMesh_c _ _ l0 _ (x3_o.r.below (by repeat (first | exact Below.refl _ _ | refine Below.drew ?_ | refine Below.alloc ?_ (by first | exact Nat.le_refl _ | (simp; done) | (simp; omega) | omega) _ | refine Below.more ?_ (by first | exact Nat.le_refl _ | (simp; done) | (simp; omega) | omega) _ _ | refine Below.setCell ?_ (by first | exact Nat.le_refl _ | (simp; done) | (simp; omega) | omega) _ | assumption))) x5_o.r rc0.out).mono ?_; rintro e w8 ⟨rfl, b⟩; have bb8 : Below w7.heap.size w7 w8 := (by first | exact b | exact (Below.drew (Below.refl _ _)).trans (b.mono (by simp))); clear b; have B8 := B7.trans (bb8.mono B7.size); have Y8 := bb8.size; have Z8 : w0.heap.size ≤ w8.heap.size := B8.size; have qx3__0_8 := cell_below bb8 qx3__0_7; have qx3__1_8 := cell_below bb8 qx3__1_7; have qP0_0_8 := cell_below bb8 qP0_0_7; have qP0_1_8 := cell_below bb8 qP0_1_7; replace x3_o := x3_o.below bb8))
  have bb : Below w6.heap.size w6 w8 := (bb7.trans (bb8.mono (by omega)))
  replace qP0_0 := cell_below bb qP0_0
  replace qP0_1 := cell_below bb qP0_1
  clear qP0_0_7 qP0_0_8 qP0_1_7 qP0_1_8
  replace qRs_0 := cell_below bb qRs_0
  replace qRs_1 := cell_below bb qRs_1
  replace qRs_2 := cell_below bb qRs_2
  replace qx3__0 := cell_below bb qx3__0
  replace qx3__1 := cell_below bb qx3__1
  clear qx3__0_7 qx3__0_8 qx3__1_7 qx3__1_8
  replace qRi_0 := cell_below bb qRi_0
  replace qRi_1 := cell_below bb qRi_1
  replace qRi_2 := cell_below bb qRi_2
  clear bb
  clear x5_o bb7 bb8
  go_wp2
  go_ret
  exact ⟨rfl, B8⟩
end Go.Proofs.YtbmhehjllchpoaaGreat
