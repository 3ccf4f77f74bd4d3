/- The walk of the law FnExactSameProgram. -/
import Derived.Test.YtgennnoplmhckaaSpecSame
import Derived.Test.YtgennnoplmhckaaOpen
import Derived.Deep.RegionHeld3
namespace Go.Proofs.Ytgennnoplmhckaa
open Go.RowKit Go.ChangeShapes
set_option maxRecDepth 100000 in
set_option maxHeartbeats 8000000 in
theorem law_SameProgram {H : Type} {enc : TypeId × Value → H} {W : World} {base : Nat} {v0 v1 : Value} {d0 d1 : DataW H} {p0 p1 : List MemPlace}
    (k0 : Value.okWide Try.prog W .any base 37 v0) (h0 : DataW.Trod enc Try.prog W 0 (fun _ => true) true 37 v0 d0 p0)
    (k1 : Value.okWide Try.prog W .any base 37 v1) (h1 : DataW.Trod enc Try.prog W 0 (fun _ => true) true 37 v1 d1 p1)
    : Calls Try.prog 6 #[v0, v1] W fun e W' => e = .returned (.bool true) ∧ Below W.heap.size W W' := by
  obtain ⟨l0, HS0, hz0⟩ := open_Program k0 h0
  have hv := HS0.out
  obtain ⟨pa0, pb0, pc0, pd0, rfl, t1, t2⟩ := hv
  clear t1 t2
  have HZ0 := Lib.hid hz0
  clear hz0
  obtain ⟨l1, HS1, hz1⟩ := open_Program k1 h1
  have hv := HS1.out
  obtain ⟨pa1, pb1, pc1, pd1, rfl, t1, t2⟩ := hv
  clear t1 t2
  have HZ1 := Lib.hid hz1
  clear hz1
  clear k0 h0 k1 h1
  obtain ⟨w0, rfl⟩ : ∃ w0, w0 = W := ⟨W, rfl⟩
  have B0 := Below.refl w0.heap.size w0
  have Z0 : w0.heap.size ≤ w0.heap.size := Nat.le_refl _
  go_enter Try.func6, Try.ntmps6
  go_wp2_with fail
  refine (szProgram_c _ l0 1048576 _ (HS0.out.below (by repeat (first | exact Below.refl _ _ | refine Below.drew ?_ | refine Below.alloc ?_ (by first | exact Nat.le_refl _ | (simp; done) | (simp; omega) | omega) _ | refine Below.more ?_ (by first | exact Nat.le_refl _ | (simp; done) | (simp; omega) | omega) _ _ | refine Below.setCell ?_ (by first | exact Nat.le_refl _ | (simp; done) | (simp; omega) | omega) _ | assumption))) (by omega) (by omega) HZ0.out).mono ?_
  rintro e w1 ⟨r0, rfl, b, hr⟩
  have bb : Below w0.heap.size w0 w1 := (Below.alloc (Below.alloc (Below.refl w0.heap.size w0) (Nat.le_refl _) _) (by simp) _).trans (b.mono (by simp; try omega))
  have qP0_0 : w1.cell? ⟨w0.heap.size, 0, none⟩ = some (.slice pa0 l0.nN pb0) := (b.cell (p := ⟨w0.heap.size, 0, none⟩) (by simp; try omega)).trans (by simp [go_sem])
  have qP0_1 : w1.cell? ⟨w0.heap.size, 1, none⟩ = some (.slice pc0 l0.nA pd0) := (b.cell (p := ⟨w0.heap.size, 1, none⟩) (by simp; try omega)).trans (by simp [go_sem])
  have qP1_0 : w1.cell? ⟨w0.heap.size + 1, 0, none⟩ = some (.slice pa1 l1.nN pb1) := (b.cell (p := ⟨w0.heap.size + 1, 0, none⟩) (by simp; try omega)).trans (by simp [go_sem])
  have qP1_1 : w1.cell? ⟨w0.heap.size + 1, 1, none⟩ = some (.slice pc1 l1.nA pd1) := (b.cell (p := ⟨w0.heap.size + 1, 1, none⟩) (by simp; try omega)).trans (by simp [go_sem])
  have sP0 := World.block_lt_of_cell? _ _ qP0_0
  have sP1 := World.block_lt_of_cell? _ _ qP1_0
  clear b
  have B1 := B0.trans (bb.mono B0.size)
  have Z1 : w0.heap.size ≤ w1.heap.size := B1.size
  have Y1 : w0.heap.size ≤ w1.heap.size := bb.size
  have sP0_1 := World.block_lt_of_cell? _ _ qP0_0
  have sP1_1 := World.block_lt_of_cell? _ _ qP1_0
  clear bb
  rcases hr with rfl | ⟨ra0, rb0, rc0⟩
  · go_wp2; go_ret; exact ⟨rfl, B1⟩
  replace rc0 := Lib.hid rc0
  go_wp2_with fail
  refine (szProgram_c _ l1 r0 _ (HS1.out.below (by repeat (first | exact Below.refl _ _ | refine Below.drew ?_ | refine Below.alloc ?_ (by first | exact Nat.le_refl _ | (simp; done) | (simp; omega) | omega) _ | refine Below.more ?_ (by first | exact Nat.le_refl _ | (simp; done) | (simp; omega) | omega) _ _ | refine Below.setCell ?_ (by first | exact Nat.le_refl _ | (simp; done) | (simp; omega) | omega) _ | assumption))) (by omega) (by omega) HZ1.out).mono ?_
  rintro e w2 ⟨r1, rfl, b, hr⟩
  replace qP0_0 := cell_below b qP0_0
  replace qP0_1 := cell_below b qP0_1
  replace qP1_0 := cell_below b qP1_0
  replace qP1_1 := cell_below b qP1_1
  have B2 := B1.trans (b.mono B1.size)
  have Z2 : w0.heap.size ≤ w2.heap.size := B2.size
  have Y2 : w1.heap.size ≤ w2.heap.size := b.size
  have sP0_2 := World.block_lt_of_cell? _ _ qP0_0
  have sP1_2 := World.block_lt_of_cell? _ _ qP1_0
  clear b
  rcases hr with rfl | ⟨ra1, rb1, rc1⟩
  · go_wp2; go_ret; exact ⟨rfl, B2⟩
  replace rc1 := Lib.hid rc1
  have yP0 := World.block_lt_of_cell? _ _ qP0_0
  have yP1 := World.block_lt_of_cell? _ _ qP1_0
  go_wp2
  go_region_held3 (fun w' => (w'.cell? ⟨w0.heap.size, 0, none⟩ = some (.slice pa0 l0.nN pb0) ∧ w'.cell? ⟨w0.heap.size, 1, none⟩ = some (.slice pc0 l0.nA pd0)) ∧ (w'.cell? ⟨w0.heap.size + 1, 0, none⟩ = some (.slice pa1 l1.nN pb1) ∧ w'.cell? ⟨w0.heap.size + 1, 1, none⟩ = some (.slice pc1 l1.nA pd1))) (go_keep) (first | (go_at_call_of 24 pa0; refine (toProgram_c _ l0 _ (HS0.out.below (by repeat (first | exact Below.refl _ _ | refine Below.drew ?_ | refine Below.alloc ?_ (by first | exact Nat.le_refl _ | (simp; done) | (simp; omega) | omega) _ | refine Below.more ?_ (by first | exact Nat.le_refl _ | (simp; done) | (simp; omega) | omega) _ _ | refine Below.setCell ?_ (by first | exact Nat.le_refl _ | (simp; done) | (simp; omega) | omega) _ | assumption))) rc0.out).mono ?_; rintro e w3 ⟨x1_v, rfl, x1_o, b⟩; have bb3 : Below w2.heap.size w2 w3 := (by first | exact b | exact (Below.drew (Below.refl _ _)).trans (b.mono (by simp))); clear b; have B3 := B2.trans (bb3.mono B2.size); have Y3 := bb3.size; have Z3 : w0.heap.size ≤ w3.heap.size := B3.size; have qP0_0_3 := cell_below bb3 qP0_0; have qP0_1_3 := cell_below bb3 qP0_1; have qP1_0_3 := cell_below bb3 qP1_0; have qP1_1_3 := cell_below bb3 qP1_1) | (go_at_call_of 24 pa1; refine (toProgram_c _ l1 _ (HS1.out.below (by repeat (first | exact Below.refl _ _ | refine Below.drew ?_ | refine Below.alloc ?_ (by first | exact Nat.le_refl _ | (simp; done) | (simp; omega) | omega) _ | refine Below.more ?_ (by first | exact Nat.le_refl _ | (simp; done) | (simp; omega) | omega) _ _ | refine Below.setCell ?_ (by first | exact Nat.le_refl _ | (simp; done) | (simp; omega) | omega) _ | assumption))) rc1.out).mono ?_; rintro e w4 ⟨x2_v, rfl, x2_o, b⟩; have bb4 : Below w3.heap.size w3 w4 := (by first | exact b | exact (Below.drew (Below.refl _ _)).trans (b.mono (by simp))); clear b; have B4 := B3.trans (bb4.mono B3.size); have Y4 := bb4.size; have Z4 : w0.heap.size ≤ w4.heap.size := B4.size; have qP0_0_4 := cell_below bb4 qP0_0_3; have qP0_1_4 := cell_below bb4 qP0_1_3; have qP1_0_4 := cell_below bb4 qP1_0_3; have qP1_1_4 := cell_below bb4 qP1_1_3; replace x1_o := x1_o.below bb4) | (go_at_call 27; refine (spec_SameProgram_c _ l0 _ l1 _ (x1_o.r.below (by repeat (first | exact Below.refl _ _ | refine Below.drew ?_ | refine Below.alloc ?_ (by first | exact Nat.le_refl _ | (simp; done) | (simp; omega) | omega) _ | refine Below.more ?_ (by first | exact Nat.le_refl _ | (simp; done) | (simp; omega) | omega) _ _ | refine Below.setCell ?_ (by first | exact Nat.le_refl _ | (simp; done) | (simp; omega) | omega) _ | assumption))) (x2_o.r.below (by repeat (first | exact Below.refl _ _ | refine Below.drew ?_ | refine Below.alloc ?_ (by first | exact Nat.le_refl _ | (simp; done) | (simp; omega) | omega) _ | refine Below.more ?_ (by first | exact Nat.le_refl _ | (simp; done) | (simp; omega) | omega) _ _ | refine Below.setCell ?_ (by first | exact Nat.le_refl _ | (simp; done) | (simp; omega) | omega) _ | assumption))) rc0.out rc1.out).mono ?_; rintro e w5 ⟨rfl, b⟩; have bb5 : Below w4.heap.size w4 w5 := (by first | exact b | exact (Below.drew (Below.refl _ _)).trans (b.mono (by simp))); clear b; have B5 := B4.trans (bb5.mono B4.size); have Y5 := bb5.size; have Z5 : w0.heap.size ≤ w5.heap.size := B5.size; have qP0_0_5 := cell_below bb5 qP0_0_4; have qP0_1_5 := cell_below bb5 qP0_1_4; have qP1_0_5 := cell_below bb5 qP1_0_4; have qP1_1_5 := cell_below bb5 qP1_1_4; replace x1_o := x1_o.below bb5; replace x2_o := x2_o.below bb5))
  have bb : Below w2.heap.size w2 w5 := ((bb3.trans (bb4.mono (by omega))).trans (bb5.mono (by omega)))
  replace qP0_0 := cell_below bb qP0_0
  replace qP0_1 := cell_below bb qP0_1
  clear qP0_0_3 qP0_0_4 qP0_0_5 qP0_1_3 qP0_1_4 qP0_1_5
  replace qP1_0 := cell_below bb qP1_0
  replace qP1_1 := cell_below bb qP1_1
  clear qP1_0_3 qP1_0_4 qP1_0_5 qP1_1_3 qP1_1_4 qP1_1_5
  clear bb
  clear x1_o
  clear x2_o
  clear bb3 bb4 bb5
  go_wp2_with fail
  refine (toProgram_c _ l0 _ (HS0.out.below (by repeat (first | exact Below.refl _ _ | refine Below.drew ?_ | refine Below.alloc ?_ (by first | exact Nat.le_refl _ | (simp; done) | (simp; omega) | omega) _ | refine Below.more ?_ (by first | exact Nat.le_refl _ | (simp; done) | (simp; omega) | omega) _ _ | refine Below.setCell ?_ (by first | exact Nat.le_refl _ | (simp; done) | (simp; omega) | omega) _ | assumption))) rc0.out).mono ?_
  rintro e w6 ⟨x4_v, rfl, x4_o, b⟩
  replace qP0_0 := cell_below b qP0_0
  replace qP0_1 := cell_below b qP0_1
  replace qP1_0 := cell_below b qP1_0
  replace qP1_1 := cell_below b qP1_1
  have B6 := B5.trans (b.mono B5.size)
  have Z6 : w0.heap.size ≤ w6.heap.size := B6.size
  have Y6 : w5.heap.size ≤ w6.heap.size := b.size
  have sP0_6 := World.block_lt_of_cell? _ _ qP0_0
  have sP1_6 := World.block_lt_of_cell? _ _ qP1_0
  clear b
  have hv := x4_o
  obtain ⟨_, _, x4_va, x4_vb, x4_vc, x4_vd, rfl, t1, t2, t3, t4, t5⟩ := hv
  clear t1 t2 t3 t4 t5
  go_wp2_with fail
  refine (toProgram_c _ l1 _ (HS1.out.below (by repeat (first | exact Below.refl _ _ | refine Below.drew ?_ | refine Below.alloc ?_ (by first | exact Nat.le_refl _ | (simp; done) | (simp; omega) | omega) _ | refine Below.more ?_ (by first | exact Nat.le_refl _ | (simp; done) | (simp; omega) | omega) _ _ | refine Below.setCell ?_ (by first | exact Nat.le_refl _ | (simp; done) | (simp; omega) | omega) _ | assumption))) rc1.out).mono ?_
  rintro e w7 ⟨x5_v, rfl, x5_o, b⟩
  have bb : Below w6.heap.size w6 w7 := (Below.alloc (Below.refl w6.heap.size w6) (Nat.le_refl _) _).trans (b.mono (by simp; try omega))
  replace qP0_0 := cell_below bb qP0_0
  replace qP0_1 := cell_below bb qP0_1
  replace qP1_0 := cell_below bb qP1_0
  replace qP1_1 := cell_below bb qP1_1
  have qx4__0 : w7.cell? ⟨w6.heap.size, 0, none⟩ = some (.slice x4_va l0.nN x4_vb) := (b.cell (p := ⟨w6.heap.size, 0, none⟩) (by simp; try omega)).trans (by simp [go_sem])
  have qx4__1 : w7.cell? ⟨w6.heap.size, 1, none⟩ = some (.slice x4_vc l0.nA x4_vd) := (b.cell (p := ⟨w6.heap.size, 1, none⟩) (by simp; try omega)).trans (by simp [go_sem])
  have sx4_ := World.block_lt_of_cell? _ _ qx4__0
  replace x5_o := x5_o.wide (lo' := w6.heap.size + 1) (by simp) (Nat.le_refl _)
  clear b
  replace x4_o := x4_o.below bb
  have B7 := B6.trans (bb.mono B6.size)
  have Z7 : w0.heap.size ≤ w7.heap.size := B7.size
  have Y7 : w6.heap.size ≤ w7.heap.size := bb.size
  have sP0_7 := World.block_lt_of_cell? _ _ qP0_0
  have sP1_7 := World.block_lt_of_cell? _ _ qP1_0
  have sx4__7 := World.block_lt_of_cell? _ _ qx4__0
  clear bb
  have hv := x5_o
  obtain ⟨_, _, x5_va, x5_vb, x5_vc, x5_vd, rfl, t1, t2, t3, t4, t5⟩ := hv
  clear t1 t2 t3 t4 t5
  go_wp2_with fail
  refine (impl_SameProgram_c _ l0 _ l1 _ (x4_o.r.below (by repeat (first | exact Below.refl _ _ | refine Below.drew ?_ | refine Below.alloc ?_ (by first | exact Nat.le_refl _ | (simp; done) | (simp; omega) | omega) _ | refine Below.more ?_ (by first | exact Nat.le_refl _ | (simp; done) | (simp; omega) | omega) _ _ | refine Below.setCell ?_ (by first | exact Nat.le_refl _ | (simp; done) | (simp; omega) | omega) _ | assumption))) (x5_o.r.below (by repeat (first | exact Below.refl _ _ | refine Below.drew ?_ | refine Below.alloc ?_ (by first | exact Nat.le_refl _ | (simp; done) | (simp; omega) | omega) _ | refine Below.more ?_ (by first | exact Nat.le_refl _ | (simp; done) | (simp; omega) | omega) _ _ | refine Below.setCell ?_ (by first | exact Nat.le_refl _ | (simp; done) | (simp; omega) | omega) _ | assumption))) rc0.out rc1.out).mono ?_
  rintro e w8 ⟨rfl, b⟩
  have bb : Below w7.heap.size w7 w8 := (Below.alloc (Below.refl w7.heap.size w7) (Nat.le_refl _) _).trans (b.mono (by simp; try omega))
  replace qP0_0 := cell_below bb qP0_0
  replace qP0_1 := cell_below bb qP0_1
  replace qP1_0 := cell_below bb qP1_0
  replace qP1_1 := cell_below bb qP1_1
  replace qx4__0 := cell_below bb qx4__0
  replace qx4__1 := cell_below bb qx4__1
  have qx5__0 : w8.cell? ⟨w7.heap.size, 0, none⟩ = some (.slice x5_va l1.nN x5_vb) := (b.cell (p := ⟨w7.heap.size, 0, none⟩) (by simp; try omega)).trans (by simp [go_sem])
  have qx5__1 : w8.cell? ⟨w7.heap.size, 1, none⟩ = some (.slice x5_vc l1.nA x5_vd) := (b.cell (p := ⟨w7.heap.size, 1, none⟩) (by simp; try omega)).trans (by simp [go_sem])
  have sx5_ := World.block_lt_of_cell? _ _ qx5__0
  clear b
  replace x4_o := x4_o.below bb
  replace x5_o := x5_o.below bb
  have B8 := B7.trans (bb.mono B7.size)
  have Z8 : w0.heap.size ≤ w8.heap.size := B8.size
  have Y8 : w7.heap.size ≤ w8.heap.size := bb.size
  have sP0_8 := World.block_lt_of_cell? _ _ qP0_0
  have sP1_8 := World.block_lt_of_cell? _ _ qP1_0
  have sx4__8 := World.block_lt_of_cell? _ _ qx4__0
  have sx5__8 := World.block_lt_of_cell? _ _ qx5__0
  clear bb
  have yx4_ := World.block_lt_of_cell? _ _ qx4__0
  have yP0 := World.block_lt_of_cell? _ _ qP0_0
  go_wp2
  go_region_held3 (fun w' => (w'.cell? ⟨w6.heap.size, 0, none⟩ = some (.slice x4_va l0.nN x4_vb) ∧ w'.cell? ⟨w6.heap.size, 1, none⟩ = some (.slice x4_vc l0.nA x4_vd)) ∧ (w'.cell? ⟨w0.heap.size, 0, none⟩ = some (.slice pa0 l0.nN pb0) ∧ w'.cell? ⟨w0.heap.size, 1, none⟩ = some (.slice pc0 l0.nA pd0))) (go_keep) (first | (go_at_call_of 24 pa0; refine (toProgram_c _ l0 _ (HS0.out.below (by repeat (first | exact Below.refl _ _ | refine Below.drew ?_ | refine Below.alloc ?_ (by first | exact Nat.le_refl _ | (simp; done) | (simp; omega) | omega) _ | refine Below.more ?_ (by first | exact Nat.le_refl _ | (simp; done) | (simp; omega) | omega) _ _ | refine Below.setCell ?_ (by first | exact Nat.le_refl _ | (simp; done) | (simp; omega) | omega) _ | assumption))) rc0.out).mono ?_; rintro e w9 ⟨x7_v, rfl, x7_o, b⟩; have bb9 : Below w8.heap.size w8 w9 := (by first | exact b | exact (Below.drew (Below.refl _ _)).trans (b.mono (by simp))); clear b; have B9 := B8.trans (bb9.mono B8.size); have Y9 := bb9.size; have Z9 : w0.heap.size ≤ w9.heap.size := B9.size; have qx4__0_9 := cell_below bb9 qx4__0; have qx4__1_9 := cell_below bb9 qx4__1; have qP0_0_9 := cell_below bb9 qP0_0; have qP0_1_9 := cell_below bb9 qP0_1; replace x4_o := x4_o.below bb9) | (go_at_call 26; refine (eqProgram_c _ _ l0 _ (x4_o.r.below (by repeat (first | exact Below.refl _ _ | refine Below.drew ?_ | refine Below.alloc ?_ (by first | exact Nat.le_refl _ | (simp; done) | (simp; omega) | omega) _ | refine Below.more ?_ (by first | exact Nat.le_refl _ | (simp; done) | (simp; omega) | omega) _ _ | refine Below.setCell ?_ (by first | exact Nat.le_refl _ | (simp; done) | (simp; omega) | omega) _ | assumption))) x7_o.r rc0.out).mono ?_; rintro e w10 ⟨rfl, b⟩; have bb10 : Below w9.heap.size w9 w10 := (by first | exact b | exact (Below.drew (Below.refl _ _)).trans (b.mono (by simp))); clear b; have B10 := B9.trans (bb10.mono B9.size); have Y10 := bb10.size; have Z10 : w0.heap.size ≤ w10.heap.size := B10.size; have qx4__0_10 := cell_below bb10 qx4__0_9; have qx4__1_10 := cell_below bb10 qx4__1_9; have qP0_0_10 := cell_below bb10 qP0_0_9; have qP0_1_10 := cell_below bb10 qP0_1_9; replace x4_o := x4_o.below bb10))
  have bb : Below w8.heap.size w8 w10 := (bb9.trans (bb10.mono (by omega)))
  replace qP0_0 := cell_below bb qP0_0
  replace qP0_1 := cell_below bb qP0_1
  clear qP0_0_9 qP0_0_10 qP0_1_9 qP0_1_10
  replace qP1_0 := cell_below bb qP1_0
  replace qP1_1 := cell_below bb qP1_1
  replace qx4__0 := cell_below bb qx4__0
  replace qx4__1 := cell_below bb qx4__1
  clear qx4__0_9 qx4__0_10 qx4__1_9 qx4__1_10
  replace qx5__0 := cell_below bb qx5__0
  replace qx5__1 := cell_below bb qx5__1
  clear bb
  replace x5_o := x5_o.below (bb9.trans (bb10.mono (by omega)))
  clear x7_o bb9 bb10
  have yx5_ := World.block_lt_of_cell? _ _ qx5__0
  have yP1 := World.block_lt_of_cell? _ _ qP1_0
  go_wp2
  go_region_held3 (fun w' => (w'.cell? ⟨w7.heap.size, 0, none⟩ = some (.slice x5_va l1.nN x5_vb) ∧ w'.cell? ⟨w7.heap.size, 1, none⟩ = some (.slice x5_vc l1.nA x5_vd)) ∧ (w'.cell? ⟨w0.heap.size + 1, 0, none⟩ = some (.slice pa1 l1.nN pb1) ∧ w'.cell? ⟨w0.heap.size + 1, 1, none⟩ = some (.slice pc1 l1.nA pd1))) (go_keep) (first | (go_at_call_of 24 pa1; refine (toProgram_c _ l1 _ (HS1.out.below (by repeat (first | exact Below.refl _ _ | refine Below.drew ?_ | refine Below.alloc ?_ (by first | exact Nat.le_refl _ | (simp; done) | (simp; omega) | omega) _ | refine Below.more ?_ (by first | exact Nat.le_refl _ | (simp; done) | (simp; omega) | omega) _ _ | refine Below.setCell ?_ (by first | exact Nat.le_refl _ | (simp; done) | (simp; omega) | omega) _ | assumption))) rc1.out).mono ?_; rintro e w11 ⟨x8_v, rfl, x8_o, b⟩; have bb11 : Below w10.heap.size w10 w11 := (by first | exact b | exact (Below.drew (Below.refl _ _)).trans (b.mono (by simp))); clear b; have B11 := B10.trans (bb11.mono B10.size); have Y11 := bb11.size; have Z11 : w0.heap.size ≤ w11.heap.size := B11.size; have qx5__0_11 := cell_below bb11 qx5__0; have qx5__1_11 := cell_below bb11 qx5__1; have qP1_0_11 := cell_below bb11 qP1_0; have qP1_1_11 := cell_below bb11 qP1_1; replace x5_o := x5_o.below bb11) | (go_at_call 26; refine (eqProgram_c _ _ l1 _ (x5_o.r.below (by repeat (first | exact Below.refl _ _ | refine Below.drew ?_ | refine Below.alloc ?_ (by first | exact Nat.le_refl _ | (simp; done) | (simp; omega) | omega) _ | refine Below.more ?_ (by first | exact Nat.le_refl _ | (simp; done) | (simp; omega) | omega) _ _ | refine Below.setCell ?_ (by first | exact Nat.le_refl _ | (simp; done) | (simp; omega) | omega) _ | assumption))) x8_o.r rc1.out).mono ?_; rintro e w12 ⟨rfl, b⟩; have bb12 : Below w11.heap.size w11 w12 := (by first | exact b | exact (Below.drew (Below.refl _ _)).trans (b.mono (by simp))); clear b; have B12 := B11.trans (bb12.mono B11.size); have Y12 := bb12.size; have Z12 : w0.heap.size ≤ w12.heap.size := B12.size; have qx5__0_12 := cell_below bb12 qx5__0_11; have qx5__1_12 := cell_below bb12 qx5__1_11; have qP1_0_12 := cell_below bb12 qP1_0_11; have qP1_1_12 := cell_below bb12 qP1_1_11; replace x5_o := x5_o.below bb12))
  have bb : Below w10.heap.size w10 w12 := (bb11.trans (bb12.mono (by omega)))
  replace qP0_0 := cell_below bb qP0_0
  replace qP0_1 := cell_below bb qP0_1
  replace qP1_0 := cell_below bb qP1_0
  replace qP1_1 := cell_below bb qP1_1
  clear qP1_0_11 qP1_0_12 qP1_1_11 qP1_1_12
  replace qx4__0 := cell_below bb qx4__0
  replace qx4__1 := cell_below bb qx4__1
  replace qx5__0 := cell_below bb qx5__0
  replace qx5__1 := cell_below bb qx5__1
  clear qx5__0_11 qx5__0_12 qx5__1_11 qx5__1_12
  clear bb
  replace x4_o := x4_o.below (bb11.trans (bb12.mono (by omega)))
  clear x8_o bb11 bb12
  go_wp2
  go_ret
  exact ⟨rfl, B12⟩
end Go.Proofs.Ytgennnoplmhckaa
