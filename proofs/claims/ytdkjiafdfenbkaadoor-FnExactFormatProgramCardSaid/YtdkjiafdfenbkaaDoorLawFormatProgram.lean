/- The walk of the law FnExactFormatProgram. -/
import Derived.Test.YtdkjiafdfenbkaaDoorFmtPgm
import Derived.Test.YtdkjiafdfenbkaaDoorOpen
import Derived.Deep.RegionHeld3
namespace Go.Proofs.YtdkjiafdfenbkaaDoor
open Go.RowKit Go.ChangeShapes
set_option maxRecDepth 100000 in
set_option maxHeartbeats 8000000 in
theorem law_FormatProgram {H : Type} {enc : TypeId × Value → H} {W : World} {base : Nat} {v0 : Value} {d0 : DataW H} {p0 : List MemPlace} (hT : Tab W)
    (k0 : Value.okWide Tryd.prog W .any base 57 v0) (h0 : DataW.Trod enc Tryd.prog W 0 (fun _ => true) true 57 v0 d0 p0)
    : Calls Tryd.prog 9 #[v0] W fun e W' => e = .returned (.bool true) ∧ Below W.heap.size W W' := by
  obtain ⟨l0, HS0, hz0⟩ := open_Program k0 h0
  have hv := HS0.out
  obtain ⟨pa0, pb0, pc0, pd0, rfl, t1, t2⟩ := hv
  clear t1 t2
  have HZ0 := Lib.hid hz0
  clear hz0
  clear k0 h0
  have HT := Lib.hid hT
  clear hT
  obtain ⟨w0, rfl⟩ : ∃ w0, w0 = W := ⟨W, rfl⟩
  have B0 := Below.refl w0.heap.size w0
  have Z0 : w0.heap.size ≤ w0.heap.size := Nat.le_refl _
  go_enter Tryd.func9, Tryd.ntmps9
  go_wp2_with fail
  refine (szProgram_c _ l0 1048576 _ (HS0.out.below (by repeat (first | exact Below.refl _ _ | refine Below.drew ?_ | refine Below.alloc ?_ (by first | exact Nat.le_refl _ | (simp; done) | (simp; omega) | omega) _ | refine Below.more ?_ (by first | exact Nat.le_refl _ | (simp; done) | (simp; omega) | omega) _ _ | refine Below.setCell ?_ (by first | exact Nat.le_refl _ | (simp; done) | (simp; omega) | omega) _ | assumption))) (by omega) (by omega) HZ0.out).mono ?_
  rintro e w1 ⟨r0, rfl, b, hr⟩
  have bb : Below w0.heap.size w0 w1 := (Below.alloc (Below.refl w0.heap.size w0) (Nat.le_refl _) _).trans (b.mono (by simp; try omega))
  have qP0_0 : w1.cell? ⟨w0.heap.size, 0, none⟩ = some (.slice pa0 l0.nN pb0) := (b.cell (p := ⟨w0.heap.size, 0, none⟩) (by simp; try omega)).trans (by simp [go_sem])
  have qP0_1 : w1.cell? ⟨w0.heap.size, 1, none⟩ = some (.slice pc0 l0.nA pd0) := (b.cell (p := ⟨w0.heap.size, 1, none⟩) (by simp; try omega)).trans (by simp [go_sem])
  have sP0 := World.block_lt_of_cell? _ _ qP0_0
  clear b
  have B1 := B0.trans (bb.mono B0.size)
  have Z1 : w0.heap.size ≤ w1.heap.size := B1.size
  have Y1 : w0.heap.size ≤ w1.heap.size := bb.size
  have sP0_1 := World.block_lt_of_cell? _ _ qP0_0
  clear bb
  rcases hr with rfl | ⟨ra0, rb0, rc0⟩
  · go_wp2; go_ret; exact ⟨rfl, B1⟩
  replace rc0 := Lib.hid rc0
  go_wp2_with fail
  refine (toProgram_c _ l0 _ (HS0.out.below (by repeat (first | exact Below.refl _ _ | refine Below.drew ?_ | refine Below.alloc ?_ (by first | exact Nat.le_refl _ | (simp; done) | (simp; omega) | omega) _ | refine Below.more ?_ (by first | exact Nat.le_refl _ | (simp; done) | (simp; omega) | omega) _ _ | refine Below.setCell ?_ (by first | exact Nat.le_refl _ | (simp; done) | (simp; omega) | omega) _ | assumption))) rc0.out).mono ?_
  rintro e w2 ⟨x1_v, rfl, x1_o, b⟩
  replace qP0_0 := cell_below b qP0_0
  replace qP0_1 := cell_below b qP0_1
  have B2 := B1.trans (b.mono B1.size)
  have Z2 : w0.heap.size ≤ w2.heap.size := B2.size
  have Y2 : w1.heap.size ≤ w2.heap.size := b.size
  have sP0_2 := World.block_lt_of_cell? _ _ qP0_0
  clear b
  go_wp2_with fail
  refine (spec_FormatProgramT_c _ l0 _ (x1_o.r.below (by repeat (first | exact Below.refl _ _ | refine Below.drew ?_ | refine Below.alloc ?_ (by first | exact Nat.le_refl _ | (simp; done) | (simp; omega) | omega) _ | refine Below.more ?_ (by first | exact Nat.le_refl _ | (simp; done) | (simp; omega) | omega) _ _ | refine Below.setCell ?_ (by first | exact Nat.le_refl _ | (simp; done) | (simp; omega) | omega) _ | assumption))) (HT.out.below (by repeat (first | exact Below.refl _ _ | refine Below.drew ?_ | refine Below.alloc ?_ (by first | exact Nat.le_refl _ | (simp; done) | (simp; omega) | omega) _ | refine Below.more ?_ (by first | exact Nat.le_refl _ | (simp; done) | (simp; omega) | omega) _ _ | refine Below.setCell ?_ (by first | exact Nat.le_refl _ | (simp; done) | (simp; omega) | omega) _ | assumption))) rc0.out).mono ?_
  rintro e w3 ⟨rfl, b⟩
  replace qP0_0 := cell_below b qP0_0
  replace qP0_1 := cell_below b qP0_1
  replace x1_o := x1_o.below b
  have B3 := B2.trans (b.mono B2.size)
  have Z3 : w0.heap.size ≤ w3.heap.size := B3.size
  have Y3 : w2.heap.size ≤ w3.heap.size := b.size
  have sP0_3 := World.block_lt_of_cell? _ _ qP0_0
  clear b
  clear x1_o
  go_wp2_with fail
  refine (toProgram_c _ l0 _ (HS0.out.below (by repeat (first | exact Below.refl _ _ | refine Below.drew ?_ | refine Below.alloc ?_ (by first | exact Nat.le_refl _ | (simp; done) | (simp; omega) | omega) _ | refine Below.more ?_ (by first | exact Nat.le_refl _ | (simp; done) | (simp; omega) | omega) _ _ | refine Below.setCell ?_ (by first | exact Nat.le_refl _ | (simp; done) | (simp; omega) | omega) _ | assumption))) rc0.out).mono ?_
  rintro e w4 ⟨x3_v, rfl, x3_o, b⟩
  replace qP0_0 := cell_below b qP0_0
  replace qP0_1 := cell_below b qP0_1
  have B4 := B3.trans (b.mono B3.size)
  have Z4 : w0.heap.size ≤ w4.heap.size := B4.size
  have Y4 : w3.heap.size ≤ w4.heap.size := b.size
  have sP0_4 := World.block_lt_of_cell? _ _ qP0_0
  clear b
  have hv := x3_o
  obtain ⟨_, _, x3_va, x3_vb, x3_vc, x3_vd, rfl, t1, t2, t3, t4, t5⟩ := hv
  clear t1 t2 t3 t4 t5
  go_wp2_with fail
  refine (impl_FormatProgramT_c _ l0 _ (x3_o.r.below (by repeat (first | exact Below.refl _ _ | refine Below.drew ?_ | refine Below.alloc ?_ (by first | exact Nat.le_refl _ | (simp; done) | (simp; omega) | omega) _ | refine Below.more ?_ (by first | exact Nat.le_refl _ | (simp; done) | (simp; omega) | omega) _ _ | refine Below.setCell ?_ (by first | exact Nat.le_refl _ | (simp; done) | (simp; omega) | omega) _ | assumption))) (HT.out.below (by repeat (first | exact Below.refl _ _ | refine Below.drew ?_ | refine Below.alloc ?_ (by first | exact Nat.le_refl _ | (simp; done) | (simp; omega) | omega) _ | refine Below.more ?_ (by first | exact Nat.le_refl _ | (simp; done) | (simp; omega) | omega) _ _ | refine Below.setCell ?_ (by first | exact Nat.le_refl _ | (simp; done) | (simp; omega) | omega) _ | assumption))) rc0.out).mono ?_
  rintro e w5 ⟨rfl, b⟩
  have bb : Below w4.heap.size w4 w5 := (Below.alloc (Below.refl w4.heap.size w4) (Nat.le_refl _) _).trans (b.mono (by simp; try omega))
  replace qP0_0 := cell_below bb qP0_0
  replace qP0_1 := cell_below bb qP0_1
  have qx3__0 : w5.cell? ⟨w4.heap.size, 0, none⟩ = some (.slice x3_va l0.nN x3_vb) := (b.cell (p := ⟨w4.heap.size, 0, none⟩) (by simp; try omega)).trans (by simp [go_sem])
  have qx3__1 : w5.cell? ⟨w4.heap.size, 1, none⟩ = some (.slice x3_vc l0.nA x3_vd) := (b.cell (p := ⟨w4.heap.size, 1, none⟩) (by simp; try omega)).trans (by simp [go_sem])
  have sx3_ := World.block_lt_of_cell? _ _ qx3__0
  clear b
  replace x3_o := x3_o.below bb
  have B5 := B4.trans (bb.mono B4.size)
  have Z5 : w0.heap.size ≤ w5.heap.size := B5.size
  have Y5 : w4.heap.size ≤ w5.heap.size := bb.size
  have sP0_5 := World.block_lt_of_cell? _ _ qP0_0
  have sx3__5 := World.block_lt_of_cell? _ _ qx3__0
  clear bb
  have yx3_ := World.block_lt_of_cell? _ _ qx3__0
  have yP0 := World.block_lt_of_cell? _ _ qP0_0
  go_wp2
  go_region_held3 (fun w' => (w'.cell? ⟨w4.heap.size, 0, none⟩ = some (.slice x3_va l0.nN x3_vb) ∧ w'.cell? ⟨w4.heap.size, 1, none⟩ = some (.slice x3_vc l0.nA x3_vd)) ∧ (w'.cell? ⟨w0.heap.size, 0, none⟩ = some (.slice pa0 l0.nN pb0) ∧ w'.cell? ⟨w0.heap.size, 1, none⟩ = some (.slice pc0 l0.nA pd0))) (go_keep) (first | (go_at_call_of 32 pa0; refine (toProgram_c _ l0 _ (HS0.out.below (by repeat (first | exact Below.refl _ _ | refine Below.drew ?_ | refine Below.alloc ?_ (by first | exact Nat.le_refl _ | (simp; done) | (simp; omega) | omega) _ | refine Below.more ?_ (by first | exact Nat.le_refl _ | (simp; done) | (simp; omega) | omega) _ _ | refine Below.setCell ?_ (by first | exact Nat.le_refl _ | (simp; done) | (simp; omega) | omega) _ | assumption))) rc0.out).mono ?_; rintro e w6 ⟨x5_v, rfl, x5_o, b⟩; have bb6 : Below w5.heap.size w5 w6 := (by first | exact b | exact (Below.drew (Below.refl _ _)).trans (b.mono (by simp))); clear b; have B6 := B5.trans (bb6.mono B5.size); have Y6 := bb6.size; have Z6 : w0.heap.size ≤ w6.heap.size := B6.size; have qx3__0_6 := cell_below bb6 qx3__0; have qx3__1_6 := cell_below bb6 qx3__1; have qP0_0_6 := cell_below bb6 qP0_0; have qP0_1_6 := cell_below bb6 qP0_1; replace x3_o := x3_o.below bb6) | (go_at_call 34; refine (eqProgram_c _ _ l0 _ (x3_o.r.below (by repeat (first | exact Below.refl _ _ | refine Below.drew ?_ | refine Below.alloc ?_ (by first | exact Nat.le_refl _ | (simp; done) | (simp; omega) | omega) _ | refine Below.more ?_ (by first | exact Nat.le_refl _ | (simp; done) | (simp; omega) | omega) _ _ | refine Below.setCell ?_ (by first | exact Nat.le_refl _ | (simp; done) | (simp; omega) | omega) _ | assumption))) x5_o.r rc0.out).mono ?_; rintro e w7 ⟨rfl, b⟩; have bb7 : Below w6.heap.size w6 w7 := (by first | exact b | exact (Below.drew (Below.refl _ _)).trans (b.mono (by simp))); clear b; have B7 := B6.trans (bb7.mono B6.size); have Y7 := bb7.size; have Z7 : w0.heap.size ≤ w7.heap.size := B7.size; have qx3__0_7 := cell_below bb7 qx3__0_6; have qx3__1_7 := cell_below bb7 qx3__1_6; have qP0_0_7 := cell_below bb7 qP0_0_6; have qP0_1_7 := cell_below bb7 qP0_1_6; replace x3_o := x3_o.below bb7))
  have bb : Below w5.heap.size w5 w7 := (bb6.trans (bb7.mono (by omega)))
  replace qP0_0 := cell_below bb qP0_0
  replace qP0_1 := cell_below bb qP0_1
  clear qP0_0_6 qP0_0_7 qP0_1_6 qP0_1_7
  replace qx3__0 := cell_below bb qx3__0
  replace qx3__1 := cell_below bb qx3__1
  clear qx3__0_6 qx3__0_7 qx3__1_6 qx3__1_7
  clear bb
  clear x5_o bb6 bb7
  go_wp2
  go_ret
  exact ⟨rfl, B7⟩
end Go.Proofs.YtdkjiafdfenbkaaDoor
