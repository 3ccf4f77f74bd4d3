/- The walk of the law FnExactDiceSubPatch. -/
import Derived.Test.YtkdkdejgajcneaaDicePatch
import Derived.Test.YtkdkdejgajcneaaLawInterpolate
import Derived.Test.YtkdkdejgajcneaaOpen
import Derived.Deep.RegionHeld3
namespace Go.Proofs.Ytkdkdejgajcneaa
open Go.RowKit Go.ChangeShapes
set_option maxRecDepth 100000 in
set_option maxHeartbeats 8000000 in
theorem law_DiceSubPatch {H : Type} {enc : TypeId × Value → H} {W : World} {base : Nat} {v0 v1 v2 v3 v4 v5 : Value} {d0 d1 d2 d3 d4 d5 : DataW H} {p0 p1 p2 p3 p4 p5 : List MemPlace}
    (k0 : Value.okWide Try.prog W .any base 48 v0) (h0 : DataW.Trod enc Try.prog W 0 (fun _ => true) true 48 v0 d0 p0)
    (k1 : Value.okWide Try.prog W .any base 52 v1) (h1 : DataW.Trod enc Try.prog W 0 (fun _ => true) true 52 v1 d1 p1)
    (k2 : Value.okWide Try.prog W .any base 61 v2) (h2 : DataW.Trod enc Try.prog W 0 (fun _ => true) true 61 v2 d2 p2)
    (k3 : Value.okWide Try.prog W .any base 3 v3) (h3 : DataW.Trod enc Try.prog W 0 (fun _ => true) true 3 v3 d3 p3)
    (k4 : Value.okWide Try.prog W .any base 3 v4) (h4 : DataW.Trod enc Try.prog W 0 (fun _ => true) true 3 v4 d4 p4)
    (k5 : Value.okWide Try.prog W .any base 3 v5) (h5 : DataW.Trod enc Try.prog W 0 (fun _ => true) true 3 v5 d5 p5)
    : Calls Try.prog 7 #[v0, v1, v2, v3, v4, v5] W fun e W' => e = .returned (.bool true) ∧ Below W.heap.size W W' := by
  obtain ⟨cW, cH, cZ, cN, cD, cL, cF, rfl, _, _, _, _, _, _⟩ := open_camera k0
  obtain ⟨t0, t1, t2, t3, t4, t5, t6, t7, t8, t9, t10, t11, rfl, _⟩ := open_patch k1
  obtain ⟨qU, qV, qN, rfl, _⟩ := open_subpatch k2
  obtain ⟨x3, rfl, _, _, wf3⟩ := open_int Try.underlying3 k3 h3
  obtain ⟨x4, rfl, _, _, wf4⟩ := open_int Try.underlying3 k4 h4
  obtain ⟨x5, rfl, _, _, wf5⟩ := open_int Try.underlying3 k5 h5
  clear k0 h0 k1 h1 k2 h2 k3 h3 k4 h4 k5 h5
  obtain ⟨w0, rfl⟩ : ∃ w0, w0 = W := ⟨W, rfl⟩
  have B0 := Below.refl w0.heap.size w0
  have Z0 : w0.heap.size ≤ w0.heap.size := Nat.le_refl _
  go_enter Try.func7, Try.ntmps7
  have hres : (dsD (⟨cW, cH, cZ, cN, cD, cL, cF⟩ : CamD) (⟨t0, t1, t2, t3, t4, t5, t6, t7, t8, t9, t10, t11⟩ : PatD) qU qV qN x3 x4 x5).length ≤ 1048576 := dsD_len _ _ _ _ _ _ _ _
  go_wp2
  obtain ⟨w1, hw1⟩ : ∃ w1, w1 = (((w0.alloc (.cells #[.int .i64 cW, .int .i64 cH, .int .i64 cZ, .int .i64 cN, .bool cD, .int .i64 cL, .int .i64 cF] 48)).alloc (.cells #[.int .i64 t0, .int .i64 t1, .int .i64 t2, .int .i64 t3, .int .i64 t4, .int .i64 t5, .int .i64 t6, .int .i64 t7, .int .i64 t8, .int .i64 t9, .int .i64 t10, .int .i64 t11] 52)).alloc (.cells #[.int .i64 qU, .int .i64 qV, .int .i64 qN] 61)) := ⟨_, rfl⟩
  rw [← hw1]
  have bb : Below w0.heap.size w0 w1 := by rw [hw1]; exact (Below.alloc (Below.alloc (Below.alloc (Below.refl w0.heap.size w0) (Nat.le_refl _) _) (by first | (simp; done) | (simp; omega)) _) (by first | (simp; done) | (simp; omega)) _)
  have qP0_0 : w1.cell? ⟨w0.heap.size, 0, none⟩ = some (.int .i64 cW) := by rw [hw1]; simp [go_sem]
  have qP0_1 : w1.cell? ⟨w0.heap.size, 1, none⟩ = some (.int .i64 cH) := by rw [hw1]; simp [go_sem]
  have qP0_2 : w1.cell? ⟨w0.heap.size, 2, none⟩ = some (.int .i64 cZ) := by rw [hw1]; simp [go_sem]
  have qP0_3 : w1.cell? ⟨w0.heap.size, 3, none⟩ = some (.int .i64 cN) := by rw [hw1]; simp [go_sem]
  have qP0_4 : w1.cell? ⟨w0.heap.size, 4, none⟩ = some (.bool cD) := by rw [hw1]; simp [go_sem]
  have qP0_5 : w1.cell? ⟨w0.heap.size, 5, none⟩ = some (.int .i64 cL) := by rw [hw1]; simp [go_sem]
  have qP0_6 : w1.cell? ⟨w0.heap.size, 6, none⟩ = some (.int .i64 cF) := by rw [hw1]; simp [go_sem]
  have qP1_0 : w1.cell? ⟨w0.heap.size + 1, 0, none⟩ = some (.int .i64 t0) := by rw [hw1]; simp [go_sem]
  have qP1_1 : w1.cell? ⟨w0.heap.size + 1, 1, none⟩ = some (.int .i64 t1) := by rw [hw1]; simp [go_sem]
  have qP1_2 : w1.cell? ⟨w0.heap.size + 1, 2, none⟩ = some (.int .i64 t2) := by rw [hw1]; simp [go_sem]
  have qP1_3 : w1.cell? ⟨w0.heap.size + 1, 3, none⟩ = some (.int .i64 t3) := by rw [hw1]; simp [go_sem]
  have qP1_4 : w1.cell? ⟨w0.heap.size + 1, 4, none⟩ = some (.int .i64 t4) := by rw [hw1]; simp [go_sem]
  have qP1_5 : w1.cell? ⟨w0.heap.size + 1, 5, none⟩ = some (.int .i64 t5) := by rw [hw1]; simp [go_sem]
  have qP1_6 : w1.cell? ⟨w0.heap.size + 1, 6, none⟩ = some (.int .i64 t6) := by rw [hw1]; simp [go_sem]
  have qP1_7 : w1.cell? ⟨w0.heap.size + 1, 7, none⟩ = some (.int .i64 t7) := by rw [hw1]; simp [go_sem]
  have qP1_8 : w1.cell? ⟨w0.heap.size + 1, 8, none⟩ = some (.int .i64 t8) := by rw [hw1]; simp [go_sem]
  have qP1_9 : w1.cell? ⟨w0.heap.size + 1, 9, none⟩ = some (.int .i64 t9) := by rw [hw1]; simp [go_sem]
  have qP1_10 : w1.cell? ⟨w0.heap.size + 1, 10, none⟩ = some (.int .i64 t10) := by rw [hw1]; simp [go_sem]
  have qP1_11 : w1.cell? ⟨w0.heap.size + 1, 11, none⟩ = some (.int .i64 t11) := by rw [hw1]; simp [go_sem]
  have qP2_0 : w1.cell? ⟨w0.heap.size + 1 + 1, 0, none⟩ = some (.int .i64 qU) := by rw [hw1]; simp [go_sem]
  have qP2_1 : w1.cell? ⟨w0.heap.size + 1 + 1, 1, none⟩ = some (.int .i64 qV) := by rw [hw1]; simp [go_sem]
  have qP2_2 : w1.cell? ⟨w0.heap.size + 1 + 1, 2, none⟩ = some (.int .i64 qN) := by rw [hw1]; simp [go_sem]
  clear hw1
  have B1 := B0.trans (bb.mono B0.size)
  have Z1 : w0.heap.size ≤ w1.heap.size := B1.size
  have Y1 : w0.heap.size ≤ w1.heap.size := bb.size
  have sP0_1 := World.block_lt_of_cell? _ _ qP0_0
  have sP1_1 := World.block_lt_of_cell? _ _ qP1_0
  have sP2_1 := World.block_lt_of_cell? _ _ qP2_0
  clear bb
  have yP0 := World.block_lt_of_cell? _ _ qP0_0
  have yP1 := World.block_lt_of_cell? _ _ qP1_0
  have yP2 := World.block_lt_of_cell? _ _ qP2_0
  go_wp2
  go_region_held3 (fun w' => (w'.cell? ⟨w0.heap.size, 0, none⟩ = some (.int .i64 cW) ∧ w'.cell? ⟨w0.heap.size, 1, none⟩ = some (.int .i64 cH) ∧ w'.cell? ⟨w0.heap.size, 2, none⟩ = some (.int .i64 cZ) ∧ w'.cell? ⟨w0.heap.size, 3, none⟩ = some (.int .i64 cN) ∧ w'.cell? ⟨w0.heap.size, 4, none⟩ = some (.bool cD) ∧ w'.cell? ⟨w0.heap.size, 5, none⟩ = some (.int .i64 cL) ∧ w'.cell? ⟨w0.heap.size, 6, none⟩ = some (.int .i64 cF)) ∧ (w'.cell? ⟨w0.heap.size + 1, 0, none⟩ = some (.int .i64 t0) ∧ w'.cell? ⟨w0.heap.size + 1, 1, none⟩ = some (.int .i64 t1) ∧ w'.cell? ⟨w0.heap.size + 1, 2, none⟩ = some (.int .i64 t2) ∧ w'.cell? ⟨w0.heap.size + 1, 3, none⟩ = some (.int .i64 t3) ∧ w'.cell? ⟨w0.heap.size + 1, 4, none⟩ = some (.int .i64 t4) ∧ w'.cell? ⟨w0.heap.size + 1, 5, none⟩ = some (.int .i64 t5) ∧ w'.cell? ⟨w0.heap.size + 1, 6, none⟩ = some (.int .i64 t6) ∧ w'.cell? ⟨w0.heap.size + 1, 7, none⟩ = some (.int .i64 t7) ∧ w'.cell? ⟨w0.heap.size + 1, 8, none⟩ = some (.int .i64 t8) ∧ w'.cell? ⟨w0.heap.size + 1, 9, none⟩ = some (.int .i64 t9) ∧ w'.cell? ⟨w0.heap.size + 1, 10, none⟩ = some (.int .i64 t10) ∧ w'.cell? ⟨w0.heap.size + 1, 11, none⟩ = some (.int .i64 t11)) ∧ (w'.cell? ⟨w0.heap.size + 1 + 1, 0, none⟩ = some (.int .i64 qU) ∧ w'.cell? ⟨w0.heap.size + 1 + 1, 1, none⟩ = some (.int .i64 qV) ∧ w'.cell? ⟨w0.heap.size + 1 + 1, 2, none⟩ = some (.int .i64 qN))) (go_keep) (first | (go_at_call 23; refine (toCamera_c cW cH cZ cN cD cL cF _).mono ?_; rintro e w2 ⟨rfl, b⟩; have bb2 : Below w1.heap.size w1 w2 := (by first | exact b | exact (Below.drew (Below.refl _ _)).trans (b.mono (by simp))); clear b; have B2 := B1.trans (bb2.mono B1.size); have Y2 := bb2.size; have Z2 : w0.heap.size ≤ w2.heap.size := B2.size; have qP0_0_2 := cell_below bb2 qP0_0; have qP0_1_2 := cell_below bb2 qP0_1; have qP0_2_2 := cell_below bb2 qP0_2; have qP0_3_2 := cell_below bb2 qP0_3; have qP0_4_2 := cell_below bb2 qP0_4; have qP0_5_2 := cell_below bb2 qP0_5; have qP0_6_2 := cell_below bb2 qP0_6; have qP1_0_2 := cell_below bb2 qP1_0; have qP1_1_2 := cell_below bb2 qP1_1; have qP1_2_2 := cell_below bb2 qP1_2; have qP1_3_2 := cell_below bb2 qP1_3; have qP1_4_2 := cell_below bb2 qP1_4; have qP1_5_2 := cell_below bb2 qP1_5; have qP1_6_2 := cell_below bb2 qP1_6; have qP1_7_2 := cell_below bb2 qP1_7; have qP1_8_2 := cell_below bb2 qP1_8; have qP1_9_2 := cell_below bb2 qP1_9; have qP1_10_2 := cell_below bb2 qP1_10; have qP1_11_2 := cell_below bb2 qP1_11; have qP2_0_2 := cell_below bb2 qP2_0; have qP2_1_2 := cell_below bb2 qP2_1; have qP2_2_2 := cell_below bb2 qP2_2) | (go_at_call 24; refine (toPatch_c t0 t1 t2 t3 t4 t5 t6 t7 t8 t9 t10 t11 _).mono ?_; rintro e w3 ⟨rfl, b⟩; have bb3 : Below w2.heap.size w2 w3 := (by first | exact b | exact (Below.drew (Below.refl _ _)).trans (b.mono (by simp))); clear b; have B3 := B2.trans (bb3.mono B2.size); have Y3 := bb3.size; have Z3 : w0.heap.size ≤ w3.heap.size := B3.size; have qP0_0_3 := cell_below bb3 qP0_0_2; have qP0_1_3 := cell_below bb3 qP0_1_2; have qP0_2_3 := cell_below bb3 qP0_2_2; have qP0_3_3 := cell_below bb3 qP0_3_2; have qP0_4_3 := cell_below bb3 qP0_4_2; have qP0_5_3 := cell_below bb3 qP0_5_2; have qP0_6_3 := cell_below bb3 qP0_6_2; have qP1_0_3 := cell_below bb3 qP1_0_2; have qP1_1_3 := cell_below bb3 qP1_1_2; have qP1_2_3 := cell_below bb3 qP1_2_2; have qP1_3_3 := cell_below bb3 qP1_3_2; have qP1_4_3 := cell_below bb3 qP1_4_2; have qP1_5_3 := cell_below bb3 qP1_5_2; have qP1_6_3 := cell_below bb3 qP1_6_2; have qP1_7_3 := cell_below bb3 qP1_7_2; have qP1_8_3 := cell_below bb3 qP1_8_2; have qP1_9_3 := cell_below bb3 qP1_9_2; have qP1_10_3 := cell_below bb3 qP1_10_2; have qP1_11_3 := cell_below bb3 qP1_11_2; have qP2_0_3 := cell_below bb3 qP2_0_2; have qP2_1_3 := cell_below bb3 qP2_1_2; have qP2_2_3 := cell_below bb3 qP2_2_2) | (go_at_call 32; refine (toSubPatch_c qU qV qN _).mono ?_; rintro e w4 ⟨rfl, b⟩; have bb4 : Below w3.heap.size w3 w4 := (by first | exact b | exact (Below.drew (Below.refl _ _)).trans (b.mono (by simp))); clear b; have B4 := B3.trans (bb4.mono B3.size); have Y4 := bb4.size; have Z4 : w0.heap.size ≤ w4.heap.size := B4.size; have qP0_0_4 := cell_below bb4 qP0_0_3; have qP0_1_4 := cell_below bb4 qP0_1_3; have qP0_2_4 := cell_below bb4 qP0_2_3; have qP0_3_4 := cell_below bb4 qP0_3_3; have qP0_4_4 := cell_below bb4 qP0_4_3; have qP0_5_4 := cell_below bb4 qP0_5_3; have qP0_6_4 := cell_below bb4 qP0_6_3; have qP1_0_4 := cell_below bb4 qP1_0_3; have qP1_1_4 := cell_below bb4 qP1_1_3; have qP1_2_4 := cell_below bb4 qP1_2_3; have qP1_3_4 := cell_below bb4 qP1_3_3; have qP1_4_4 := cell_below bb4 qP1_4_3; have qP1_5_4 := cell_below bb4 qP1_5_3; have qP1_6_4 := cell_below bb4 qP1_6_3; have qP1_7_4 := cell_below bb4 qP1_7_3; have qP1_8_4 := cell_below bb4 qP1_8_3; have qP1_9_4 := cell_below bb4 qP1_9_3; have qP1_10_4 := cell_below bb4 qP1_10_3; have qP1_11_4 := cell_below bb4 qP1_11_3; have qP2_0_4 := cell_below bb4 qP2_0_3; have qP2_1_4 := cell_below bb4 qP2_1_3; have qP2_2_4 := cell_below bb4 qP2_2_3) | (go_at_call 31; refine (spec_DiceSubPatch_c (⟨cW, cH, cZ, cN, cD, cL, cF⟩ : CamD) (⟨t0, t1, t2, t3, t4, t5, t6, t7, t8, t9, t10, t11⟩ : PatD) qU qV qN x3 x4 x5 _).mono ?_; rintro e w5 ⟨x4_a, x4_c, rfl, x4_o, b⟩; have bb5 : Below w4.heap.size w4 w5 := (by first | exact b | exact (Below.drew (Below.refl _ _)).trans (b.mono (by simp))); clear b; have B5 := B4.trans (bb5.mono B4.size); have Y5 := bb5.size; have Z5 : w0.heap.size ≤ w5.heap.size := B5.size; have qP0_0_5 := cell_below bb5 qP0_0_4; have qP0_1_5 := cell_below bb5 qP0_1_4; have qP0_2_5 := cell_below bb5 qP0_2_4; have qP0_3_5 := cell_below bb5 qP0_3_4; have qP0_4_5 := cell_below bb5 qP0_4_4; have qP0_5_5 := cell_below bb5 qP0_5_4; have qP0_6_5 := cell_below bb5 qP0_6_4; have qP1_0_5 := cell_below bb5 qP1_0_4; have qP1_1_5 := cell_below bb5 qP1_1_4; have qP1_2_5 := cell_below bb5 qP1_2_4; have qP1_3_5 := cell_below bb5 qP1_3_4; have qP1_4_5 := cell_below bb5 qP1_4_4; have qP1_5_5 := cell_below bb5 qP1_5_4; have qP1_6_5 := cell_below bb5 qP1_6_4; have qP1_7_5 := cell_below bb5 qP1_7_4; have qP1_8_5 := cell_below bb5 qP1_8_4; have qP1_9_5 := cell_below bb5 qP1_9_4; have qP1_10_5 := cell_below bb5 qP1_10_4; have qP1_11_5 := cell_below bb5 qP1_11_4; have qP2_0_5 := cell_below bb5 qP2_0_4; have qP2_1_5 := cell_below bb5 qP2_1_4; have qP2_2_5 := cell_below bb5 qP2_2_4))
  have bb : Below w1.heap.size w1 w5 := (((bb2.trans (bb3.mono (by omega))).trans (bb4.mono (by omega))).trans (bb5.mono (by omega)))
  replace qP0_0 := cell_below bb qP0_0
  replace qP0_1 := cell_below bb qP0_1
  replace qP0_2 := cell_below bb qP0_2
  replace qP0_3 := cell_below bb qP0_3
  replace qP0_4 := cell_below bb qP0_4
  replace qP0_5 := cell_below bb qP0_5
  replace qP0_6 := cell_below bb qP0_6
  clear qP0_0_2 qP0_0_3 qP0_0_4 qP0_0_5 qP0_1_2 qP0_1_3 qP0_1_4 qP0_1_5 qP0_2_2 qP0_2_3 qP0_2_4 qP0_2_5 qP0_3_2 qP0_3_3 qP0_3_4 qP0_3_5 qP0_4_2 qP0_4_3 qP0_4_4 qP0_4_5 qP0_5_2 qP0_5_3 qP0_5_4 qP0_5_5 qP0_6_2 qP0_6_3 qP0_6_4 qP0_6_5
  replace qP1_0 := cell_below bb qP1_0
  replace qP1_1 := cell_below bb qP1_1
  replace qP1_2 := cell_below bb qP1_2
  replace qP1_3 := cell_below bb qP1_3
  replace qP1_4 := cell_below bb qP1_4
  replace qP1_5 := cell_below bb qP1_5
  replace qP1_6 := cell_below bb qP1_6
  replace qP1_7 := cell_below bb qP1_7
  replace qP1_8 := cell_below bb qP1_8
  replace qP1_9 := cell_below bb qP1_9
  replace qP1_10 := cell_below bb qP1_10
  replace qP1_11 := cell_below bb qP1_11
  clear qP1_0_2 qP1_0_3 qP1_0_4 qP1_0_5 qP1_1_2 qP1_1_3 qP1_1_4 qP1_1_5 qP1_2_2 qP1_2_3 qP1_2_4 qP1_2_5 qP1_3_2 qP1_3_3 qP1_3_4 qP1_3_5 qP1_4_2 qP1_4_3 qP1_4_4 qP1_4_5 qP1_5_2 qP1_5_3 qP1_5_4 qP1_5_5 qP1_6_2 qP1_6_3 qP1_6_4 qP1_6_5 qP1_7_2 qP1_7_3 qP1_7_4 qP1_7_5 qP1_8_2 qP1_8_3 qP1_8_4 qP1_8_5 qP1_9_2 qP1_9_3 qP1_9_4 qP1_9_5 qP1_10_2 qP1_10_3 qP1_10_4 qP1_10_5 qP1_11_2 qP1_11_3 qP1_11_4 qP1_11_5
  replace qP2_0 := cell_below bb qP2_0
  replace qP2_1 := cell_below bb qP2_1
  replace qP2_2 := cell_below bb qP2_2
  clear qP2_0_2 qP2_0_3 qP2_0_4 qP2_0_5 qP2_1_2 qP2_1_3 qP2_1_4 qP2_1_5 qP2_2_2 qP2_2_3 qP2_2_4 qP2_2_5
  clear bb
  clear bb2 bb3 bb4 bb5
  have yP0 := World.block_lt_of_cell? _ _ qP0_0
  have yP1 := World.block_lt_of_cell? _ _ qP1_0
  have yP2 := World.block_lt_of_cell? _ _ qP2_0
  go_wp2
  go_region_held3 (fun w' => (w'.cell? ⟨w0.heap.size, 0, none⟩ = some (.int .i64 cW) ∧ w'.cell? ⟨w0.heap.size, 1, none⟩ = some (.int .i64 cH) ∧ w'.cell? ⟨w0.heap.size, 2, none⟩ = some (.int .i64 cZ) ∧ w'.cell? ⟨w0.heap.size, 3, none⟩ = some (.int .i64 cN) ∧ w'.cell? ⟨w0.heap.size, 4, none⟩ = some (.bool cD) ∧ w'.cell? ⟨w0.heap.size, 5, none⟩ = some (.int .i64 cL) ∧ w'.cell? ⟨w0.heap.size, 6, none⟩ = some (.int .i64 cF)) ∧ (w'.cell? ⟨w0.heap.size + 1, 0, none⟩ = some (.int .i64 t0) ∧ w'.cell? ⟨w0.heap.size + 1, 1, none⟩ = some (.int .i64 t1) ∧ w'.cell? ⟨w0.heap.size + 1, 2, none⟩ = some (.int .i64 t2) ∧ w'.cell? ⟨w0.heap.size + 1, 3, none⟩ = some (.int .i64 t3) ∧ w'.cell? ⟨w0.heap.size + 1, 4, none⟩ = some (.int .i64 t4) ∧ w'.cell? ⟨w0.heap.size + 1, 5, none⟩ = some (.int .i64 t5) ∧ w'.cell? ⟨w0.heap.size + 1, 6, none⟩ = some (.int .i64 t6) ∧ w'.cell? ⟨w0.heap.size + 1, 7, none⟩ = some (.int .i64 t7) ∧ w'.cell? ⟨w0.heap.size + 1, 8, none⟩ = some (.int .i64 t8) ∧ w'.cell? ⟨w0.heap.size + 1, 9, none⟩ = some (.int .i64 t9) ∧ w'.cell? ⟨w0.heap.size + 1, 10, none⟩ = some (.int .i64 t10) ∧ w'.cell? ⟨w0.heap.size + 1, 11, none⟩ = some (.int .i64 t11)) ∧ (w'.cell? ⟨w0.heap.size + 1 + 1, 0, none⟩ = some (.int .i64 qU) ∧ w'.cell? ⟨w0.heap.size + 1 + 1, 1, none⟩ = some (.int .i64 qV) ∧ w'.cell? ⟨w0.heap.size + 1 + 1, 2, none⟩ = some (.int .i64 qN))) (go_keep) (first | (go_at_call 23; refine (toCamera_c cW cH cZ cN cD cL cF _).mono ?_; rintro e w6 ⟨rfl, b⟩; have bb6 : Below w5.heap.size w5 w6 := (by first | exact b | exact (Below.drew (Below.refl _ _)).trans (b.mono (by simp))); clear b; have B6 := B5.trans (bb6.mono B5.size); have Y6 := bb6.size; have Z6 : w0.heap.size ≤ w6.heap.size := B6.size; have qP0_0_6 := cell_below bb6 qP0_0; have qP0_1_6 := cell_below bb6 qP0_1; have qP0_2_6 := cell_below bb6 qP0_2; have qP0_3_6 := cell_below bb6 qP0_3; have qP0_4_6 := cell_below bb6 qP0_4; have qP0_5_6 := cell_below bb6 qP0_5; have qP0_6_6 := cell_below bb6 qP0_6; have qP1_0_6 := cell_below bb6 qP1_0; have qP1_1_6 := cell_below bb6 qP1_1; have qP1_2_6 := cell_below bb6 qP1_2; have qP1_3_6 := cell_below bb6 qP1_3; have qP1_4_6 := cell_below bb6 qP1_4; have qP1_5_6 := cell_below bb6 qP1_5; have qP1_6_6 := cell_below bb6 qP1_6; have qP1_7_6 := cell_below bb6 qP1_7; have qP1_8_6 := cell_below bb6 qP1_8; have qP1_9_6 := cell_below bb6 qP1_9; have qP1_10_6 := cell_below bb6 qP1_10; have qP1_11_6 := cell_below bb6 qP1_11; have qP2_0_6 := cell_below bb6 qP2_0; have qP2_1_6 := cell_below bb6 qP2_1; have qP2_2_6 := cell_below bb6 qP2_2) | (go_at_call 24; refine (toPatch_c t0 t1 t2 t3 t4 t5 t6 t7 t8 t9 t10 t11 _).mono ?_; rintro e w7 ⟨rfl, b⟩; have bb7 : Below w6.heap.size w6 w7 := (by first | exact b | exact (Below.drew (Below.refl _ _)).trans (b.mono (by simp))); clear b; have B7 := B6.trans (bb7.mono B6.size); have Y7 := bb7.size; have Z7 : w0.heap.size ≤ w7.heap.size := B7.size; have qP0_0_7 := cell_below bb7 qP0_0_6; have qP0_1_7 := cell_below bb7 qP0_1_6; have qP0_2_7 := cell_below bb7 qP0_2_6; have qP0_3_7 := cell_below bb7 qP0_3_6; have qP0_4_7 := cell_below bb7 qP0_4_6; have qP0_5_7 := cell_below bb7 qP0_5_6; have qP0_6_7 := cell_below bb7 qP0_6_6; have qP1_0_7 := cell_below bb7 qP1_0_6; have qP1_1_7 := cell_below bb7 qP1_1_6; have qP1_2_7 := cell_below bb7 qP1_2_6; have qP1_3_7 := cell_below bb7 qP1_3_6; have qP1_4_7 := cell_below bb7 qP1_4_6; have qP1_5_7 := cell_below bb7 qP1_5_6; have qP1_6_7 := cell_below bb7 qP1_6_6; have qP1_7_7 := cell_below bb7 qP1_7_6; have qP1_8_7 := cell_below bb7 qP1_8_6; have qP1_9_7 := cell_below bb7 qP1_9_6; have qP1_10_7 := cell_below bb7 qP1_10_6; have qP1_11_7 := cell_below bb7 qP1_11_6; have qP2_0_7 := cell_below bb7 qP2_0_6; have qP2_1_7 := cell_below bb7 qP2_1_6; have qP2_2_7 := cell_below bb7 qP2_2_6) | (go_at_call 32; refine (toSubPatch_c qU qV qN _).mono ?_; rintro e w8 ⟨rfl, b⟩; have bb8 : Below w7.heap.size w7 w8 := (by first | exact b | exact (Below.drew (Below.refl _ _)).trans (b.mono (by simp))); clear b; have B8 := B7.trans (bb8.mono B7.size); have Y8 := bb8.size; have Z8 : w0.heap.size ≤ w8.heap.size := B8.size; have qP0_0_8 := cell_below bb8 qP0_0_7; have qP0_1_8 := cell_below bb8 qP0_1_7; have qP0_2_8 := cell_below bb8 qP0_2_7; have qP0_3_8 := cell_below bb8 qP0_3_7; have qP0_4_8 := cell_below bb8 qP0_4_7; have qP0_5_8 := cell_below bb8 qP0_5_7; have qP0_6_8 := cell_below bb8 qP0_6_7; have qP1_0_8 := cell_below bb8 qP1_0_7; have qP1_1_8 := cell_below bb8 qP1_1_7; have qP1_2_8 := cell_below bb8 qP1_2_7; have qP1_3_8 := cell_below bb8 qP1_3_7; have qP1_4_8 := cell_below bb8 qP1_4_7; have qP1_5_8 := cell_below bb8 qP1_5_7; have qP1_6_8 := cell_below bb8 qP1_6_7; have qP1_7_8 := cell_below bb8 qP1_7_7; have qP1_8_8 := cell_below bb8 qP1_8_7; have qP1_9_8 := cell_below bb8 qP1_9_7; have qP1_10_8 := cell_below bb8 qP1_10_7; have qP1_11_8 := cell_below bb8 qP1_11_7; have qP2_0_8 := cell_below bb8 qP2_0_7; have qP2_1_8 := cell_below bb8 qP2_1_7; have qP2_2_8 := cell_below bb8 qP2_2_7) | (go_at_call 20; refine (impl_DiceSubPatch_c (⟨cW, cH, cZ, cN, cD, cL, cF⟩ : CamD) (⟨t0, t1, t2, t3, t4, t5, t6, t7, t8, t9, t10, t11⟩ : PatD) qU qV qN x3 x4 x5 _).mono ?_; rintro e w9 ⟨x8_a, x8_c, rfl, x8_o, b⟩; have bb9 : Below w8.heap.size w8 w9 := (by first | exact b | exact (Below.drew (Below.refl _ _)).trans (b.mono (by simp))); clear b; have B9 := B8.trans (bb9.mono B8.size); have Y9 := bb9.size; have Z9 : w0.heap.size ≤ w9.heap.size := B9.size; have qP0_0_9 := cell_below bb9 qP0_0_8; have qP0_1_9 := cell_below bb9 qP0_1_8; have qP0_2_9 := cell_below bb9 qP0_2_8; have qP0_3_9 := cell_below bb9 qP0_3_8; have qP0_4_9 := cell_below bb9 qP0_4_8; have qP0_5_9 := cell_below bb9 qP0_5_8; have qP0_6_9 := cell_below bb9 qP0_6_8; have qP1_0_9 := cell_below bb9 qP1_0_8; have qP1_1_9 := cell_below bb9 qP1_1_8; have qP1_2_9 := cell_below bb9 qP1_2_8; have qP1_3_9 := cell_below bb9 qP1_3_8; have qP1_4_9 := cell_below bb9 qP1_4_8; have qP1_5_9 := cell_below bb9 qP1_5_8; have qP1_6_9 := cell_below bb9 qP1_6_8; have qP1_7_9 := cell_below bb9 qP1_7_8; have qP1_8_9 := cell_below bb9 qP1_8_8; have qP1_9_9 := cell_below bb9 qP1_9_8; have qP1_10_9 := cell_below bb9 qP1_10_8; have qP1_11_9 := cell_below bb9 qP1_11_8; have qP2_0_9 := cell_below bb9 qP2_0_8; have qP2_1_9 := cell_below bb9 qP2_1_8; have qP2_2_9 := cell_below bb9 qP2_2_8))
  have bb : Below w5.heap.size w5 w9 := (((bb6.trans (bb7.mono (by omega))).trans (bb8.mono (by omega))).trans (bb9.mono (by omega)))
  replace qP0_0 := cell_below bb qP0_0
  replace qP0_1 := cell_below bb qP0_1
  replace qP0_2 := cell_below bb qP0_2
  replace qP0_3 := cell_below bb qP0_3
  replace qP0_4 := cell_below bb qP0_4
  replace qP0_5 := cell_below bb qP0_5
  replace qP0_6 := cell_below bb qP0_6
  clear qP0_0_6 qP0_0_7 qP0_0_8 qP0_0_9 qP0_1_6 qP0_1_7 qP0_1_8 qP0_1_9 qP0_2_6 qP0_2_7 qP0_2_8 qP0_2_9 qP0_3_6 qP0_3_7 qP0_3_8 qP0_3_9 qP0_4_6 qP0_4_7 qP0_4_8 qP0_4_9 qP0_5_6 qP0_5_7 qP0_5_8 qP0_5_9 qP0_6_6 qP0_6_7 qP0_6_8 qP0_6_9
  replace qP1_0 := cell_below bb qP1_0
  replace qP1_1 := cell_below bb qP1_1
  replace qP1_2 := cell_below bb qP1_2
  replace qP1_3 := cell_below bb qP1_3
  replace qP1_4 := cell_below bb qP1_4
  replace qP1_5 := cell_below bb qP1_5
  replace qP1_6 := cell_below bb qP1_6
  replace qP1_7 := cell_below bb qP1_7
  replace qP1_8 := cell_below bb qP1_8
  replace qP1_9 := cell_below bb qP1_9
  replace qP1_10 := cell_below bb qP1_10
  replace qP1_11 := cell_below bb qP1_11
  clear qP1_0_6 qP1_0_7 qP1_0_8 qP1_0_9 qP1_1_6 qP1_1_7 qP1_1_8 qP1_1_9 qP1_2_6 qP1_2_7 qP1_2_8 qP1_2_9 qP1_3_6 qP1_3_7 qP1_3_8 qP1_3_9 qP1_4_6 qP1_4_7 qP1_4_8 qP1_4_9 qP1_5_6 qP1_5_7 qP1_5_8 qP1_5_9 qP1_6_6 qP1_6_7 qP1_6_8 qP1_6_9 qP1_7_6 qP1_7_7 qP1_7_8 qP1_7_9 qP1_8_6 qP1_8_7 qP1_8_8 qP1_8_9 qP1_9_6 qP1_9_7 qP1_9_8 qP1_9_9 qP1_10_6 qP1_10_7 qP1_10_8 qP1_10_9 qP1_11_6 qP1_11_7 qP1_11_8 qP1_11_9
  replace qP2_0 := cell_below bb qP2_0
  replace qP2_1 := cell_below bb qP2_1
  replace qP2_2 := cell_below bb qP2_2
  clear qP2_0_6 qP2_0_7 qP2_0_8 qP2_0_9 qP2_1_6 qP2_1_7 qP2_1_8 qP2_1_9 qP2_2_6 qP2_2_7 qP2_2_8 qP2_2_9
  clear bb
  replace x4_o := x4_o.below (((bb6.trans (bb7.mono (by omega))).trans (bb8.mono (by omega))).trans (bb9.mono (by omega)))
  clear bb6 bb7 bb8 bb9
  go_wp2_with fail
  refine (eqMicropolygonS_c x8_a x4_a x8_c x4_c (dsD (⟨cW, cH, cZ, cN, cD, cL, cF⟩ : CamD) (⟨t0, t1, t2, t3, t4, t5, t6, t7, t8, t9, t10, t11⟩ : PatD) qU qV qN x3 x4 x5) (dsD (⟨cW, cH, cZ, cN, cD, cL, cF⟩ : CamD) (⟨t0, t1, t2, t3, t4, t5, t6, t7, t8, t9, t10, t11⟩ : PatD) qU qV qN x3 x4 x5).length _ (x8_o.sl.below (by repeat (first | exact Below.refl _ _ | refine Below.drew ?_ | refine Below.alloc ?_ (by first | exact Nat.le_refl _ | (simp; done) | (simp; omega) | omega) _ | refine Below.more ?_ (by first | exact Nat.le_refl _ | (simp; done) | (simp; omega) | omega) _ _ | refine Below.setCell ?_ (by first | exact Nat.le_refl _ | (simp; done) | (simp; omega) | omega) _ | assumption))) (x4_o.sl.below (by repeat (first | exact Below.refl _ _ | refine Below.drew ?_ | refine Below.alloc ?_ (by first | exact Nat.le_refl _ | (simp; done) | (simp; omega) | omega) _ | refine Below.more ?_ (by first | exact Nat.le_refl _ | (simp; done) | (simp; omega) | omega) _ _ | refine Below.setCell ?_ (by first | exact Nat.le_refl _ | (simp; done) | (simp; omega) | omega) _ | assumption))) (by omega)).mono ?_
  rintro e w10 ⟨rfl, b⟩
  replace qP0_0 := cell_below b qP0_0
  replace qP0_1 := cell_below b qP0_1
  replace qP0_2 := cell_below b qP0_2
  replace qP0_3 := cell_below b qP0_3
  replace qP0_4 := cell_below b qP0_4
  replace qP0_5 := cell_below b qP0_5
  replace qP0_6 := cell_below b qP0_6
  replace qP1_0 := cell_below b qP1_0
  replace qP1_1 := cell_below b qP1_1
  replace qP1_2 := cell_below b qP1_2
  replace qP1_3 := cell_below b qP1_3
  replace qP1_4 := cell_below b qP1_4
  replace qP1_5 := cell_below b qP1_5
  replace qP1_6 := cell_below b qP1_6
  replace qP1_7 := cell_below b qP1_7
  replace qP1_8 := cell_below b qP1_8
  replace qP1_9 := cell_below b qP1_9
  replace qP1_10 := cell_below b qP1_10
  replace qP1_11 := cell_below b qP1_11
  replace qP2_0 := cell_below b qP2_0
  replace qP2_1 := cell_below b qP2_1
  replace qP2_2 := cell_below b qP2_2
  replace x4_o := x4_o.below b
  replace x8_o := x8_o.below b
  have B10 := B9.trans (b.mono B9.size)
  have Z10 : w0.heap.size ≤ w10.heap.size := B10.size
  have Y10 : w9.heap.size ≤ w10.heap.size := b.size
  have sP0_10 := World.block_lt_of_cell? _ _ qP0_0
  have sP1_10 := World.block_lt_of_cell? _ _ qP1_0
  have sP2_10 := World.block_lt_of_cell? _ _ qP2_0
  clear b
  go_wp2_with fail
  refine (markMicropolygonS_c x8_a x8_c (dsD (⟨cW, cH, cZ, cN, cD, cL, cF⟩ : CamD) (⟨t0, t1, t2, t3, t4, t5, t6, t7, t8, t9, t10, t11⟩ : PatD) qU qV qN x3 x4 x5) (dsD (⟨cW, cH, cZ, cN, cD, cL, cF⟩ : CamD) (⟨t0, t1, t2, t3, t4, t5, t6, t7, t8, t9, t10, t11⟩ : PatD) qU qV qN x3 x4 x5).length 1 (w8.heap.size) w9.heap.size _ x8_o (by omega) (by omega)).mono ?_
  rintro e w11 ⟨rfl, x8_o2, g⟩
  replace qP0_0 := cell_chg g (by first | exact .inl (by omega) | exact .inr (by omega)) qP0_0
  replace qP0_1 := cell_chg g (by first | exact .inl (by omega) | exact .inr (by omega)) qP0_1
  replace qP0_2 := cell_chg g (by first | exact .inl (by omega) | exact .inr (by omega)) qP0_2
  replace qP0_3 := cell_chg g (by first | exact .inl (by omega) | exact .inr (by omega)) qP0_3
  replace qP0_4 := cell_chg g (by first | exact .inl (by omega) | exact .inr (by omega)) qP0_4
  replace qP0_5 := cell_chg g (by first | exact .inl (by omega) | exact .inr (by omega)) qP0_5
  replace qP0_6 := cell_chg g (by first | exact .inl (by omega) | exact .inr (by omega)) qP0_6
  replace qP1_0 := cell_chg g (by first | exact .inl (by omega) | exact .inr (by omega)) qP1_0
  replace qP1_1 := cell_chg g (by first | exact .inl (by omega) | exact .inr (by omega)) qP1_1
  replace qP1_2 := cell_chg g (by first | exact .inl (by omega) | exact .inr (by omega)) qP1_2
  replace qP1_3 := cell_chg g (by first | exact .inl (by omega) | exact .inr (by omega)) qP1_3
  replace qP1_4 := cell_chg g (by first | exact .inl (by omega) | exact .inr (by omega)) qP1_4
  replace qP1_5 := cell_chg g (by first | exact .inl (by omega) | exact .inr (by omega)) qP1_5
  replace qP1_6 := cell_chg g (by first | exact .inl (by omega) | exact .inr (by omega)) qP1_6
  replace qP1_7 := cell_chg g (by first | exact .inl (by omega) | exact .inr (by omega)) qP1_7
  replace qP1_8 := cell_chg g (by first | exact .inl (by omega) | exact .inr (by omega)) qP1_8
  replace qP1_9 := cell_chg g (by first | exact .inl (by omega) | exact .inr (by omega)) qP1_9
  replace qP1_10 := cell_chg g (by first | exact .inl (by omega) | exact .inr (by omega)) qP1_10
  replace qP1_11 := cell_chg g (by first | exact .inl (by omega) | exact .inr (by omega)) qP1_11
  replace qP2_0 := cell_chg g (by first | exact .inl (by omega) | exact .inr (by omega)) qP2_0
  replace qP2_1 := cell_chg g (by first | exact .inl (by omega) | exact .inr (by omega)) qP2_1
  replace qP2_2 := cell_chg g (by first | exact .inl (by omega) | exact .inr (by omega)) qP2_2
  replace x4_o := x4_o.chg g (by omega)
  have B11 := Below.chg B10 g (by omega) B10.size
  have Z11 : w0.heap.size ≤ w11.heap.size := B11.size
  have Y11 : w10.heap.size ≤ w11.heap.size := g.size
  have sP0_11 := World.block_lt_of_cell? _ _ qP0_0
  have sP1_11 := World.block_lt_of_cell? _ _ qP1_0
  have sP2_11 := World.block_lt_of_cell? _ _ qP2_0
  clear g
  go_wp2_with fail
  refine (heldMicropolygonS_c x8_a x8_c (dsD (⟨cW, cH, cZ, cN, cD, cL, cF⟩ : CamD) (⟨t0, t1, t2, t3, t4, t5, t6, t7, t8, t9, t10, t11⟩ : PatD) qU qV qN x3 x4 x5) (dsD (⟨cW, cH, cZ, cN, cD, cL, cF⟩ : CamD) (⟨t0, t1, t2, t3, t4, t5, t6, t7, t8, t9, t10, t11⟩ : PatD) qU qV qN x3 x4 x5).length 1 _ x8_o2.sl (by omega) (by omega)).mono ?_
  rintro e w12 ⟨rfl, b⟩
  replace qP0_0 := cell_below b qP0_0
  replace qP0_1 := cell_below b qP0_1
  replace qP0_2 := cell_below b qP0_2
  replace qP0_3 := cell_below b qP0_3
  replace qP0_4 := cell_below b qP0_4
  replace qP0_5 := cell_below b qP0_5
  replace qP0_6 := cell_below b qP0_6
  replace qP1_0 := cell_below b qP1_0
  replace qP1_1 := cell_below b qP1_1
  replace qP1_2 := cell_below b qP1_2
  replace qP1_3 := cell_below b qP1_3
  replace qP1_4 := cell_below b qP1_4
  replace qP1_5 := cell_below b qP1_5
  replace qP1_6 := cell_below b qP1_6
  replace qP1_7 := cell_below b qP1_7
  replace qP1_8 := cell_below b qP1_8
  replace qP1_9 := cell_below b qP1_9
  replace qP1_10 := cell_below b qP1_10
  replace qP1_11 := cell_below b qP1_11
  replace qP2_0 := cell_below b qP2_0
  replace qP2_1 := cell_below b qP2_1
  replace qP2_2 := cell_below b qP2_2
  replace x4_o := x4_o.below b
  replace x8_o2 := x8_o2.below b
  have B12 := B11.trans (b.mono B11.size)
  have Z12 : w0.heap.size ≤ w12.heap.size := B12.size
  have Y12 : w11.heap.size ≤ w12.heap.size := b.size
  have sP0_12 := World.block_lt_of_cell? _ _ qP0_0
  have sP1_12 := World.block_lt_of_cell? _ _ qP1_0
  have sP2_12 := World.block_lt_of_cell? _ _ qP2_0
  clear b
  have yP0 := World.block_lt_of_cell? _ _ qP0_0
  have yP1 := World.block_lt_of_cell? _ _ qP1_0
  have yP2 := World.block_lt_of_cell? _ _ qP2_0
  go_wp2
  go_region_held3 (fun w' => (w'.cell? ⟨w0.heap.size, 0, none⟩ = some (.int .i64 cW) ∧ w'.cell? ⟨w0.heap.size, 1, none⟩ = some (.int .i64 cH) ∧ w'.cell? ⟨w0.heap.size, 2, none⟩ = some (.int .i64 cZ) ∧ w'.cell? ⟨w0.heap.size, 3, none⟩ = some (.int .i64 cN) ∧ w'.cell? ⟨w0.heap.size, 4, none⟩ = some (.bool cD) ∧ w'.cell? ⟨w0.heap.size, 5, none⟩ = some (.int .i64 cL) ∧ w'.cell? ⟨w0.heap.size, 6, none⟩ = some (.int .i64 cF)) ∧ (w'.cell? ⟨w0.heap.size + 1, 0, none⟩ = some (.int .i64 t0) ∧ w'.cell? ⟨w0.heap.size + 1, 1, none⟩ = some (.int .i64 t1) ∧ w'.cell? ⟨w0.heap.size + 1, 2, none⟩ = some (.int .i64 t2) ∧ w'.cell? ⟨w0.heap.size + 1, 3, none⟩ = some (.int .i64 t3) ∧ w'.cell? ⟨w0.heap.size + 1, 4, none⟩ = some (.int .i64 t4) ∧ w'.cell? ⟨w0.heap.size + 1, 5, none⟩ = some (.int .i64 t5) ∧ w'.cell? ⟨w0.heap.size + 1, 6, none⟩ = some (.int .i64 t6) ∧ w'.cell? ⟨w0.heap.size + 1, 7, none⟩ = some (.int .i64 t7) ∧ w'.cell? ⟨w0.heap.size + 1, 8, none⟩ = some (.int .i64 t8) ∧ w'.cell? ⟨w0.heap.size + 1, 9, none⟩ = some (.int .i64 t9) ∧ w'.cell? ⟨w0.heap.size + 1, 10, none⟩ = some (.int .i64 t10) ∧ w'.cell? ⟨w0.heap.size + 1, 11, none⟩ = some (.int .i64 t11)) ∧ (w'.cell? ⟨w0.heap.size + 1 + 1, 0, none⟩ = some (.int .i64 qU) ∧ w'.cell? ⟨w0.heap.size + 1 + 1, 1, none⟩ = some (.int .i64 qV) ∧ w'.cell? ⟨w0.heap.size + 1 + 1, 2, none⟩ = some (.int .i64 qN))) (go_keep) (first | (go_at_call 23; refine (toCamera_c cW cH cZ cN cD cL cF _).mono ?_; rintro e w13 ⟨rfl, b⟩; have bb13 : Below w12.heap.size w12 w13 := (by first | exact b | exact (Below.drew (Below.refl _ _)).trans (b.mono (by simp))); clear b; have B13 := B12.trans (bb13.mono B12.size); have Y13 := bb13.size; have Z13 : w0.heap.size ≤ w13.heap.size := B13.size; have qP0_0_13 := cell_below bb13 qP0_0; have qP0_1_13 := cell_below bb13 qP0_1; have qP0_2_13 := cell_below bb13 qP0_2; have qP0_3_13 := cell_below bb13 qP0_3; have qP0_4_13 := cell_below bb13 qP0_4; have qP0_5_13 := cell_below bb13 qP0_5; have qP0_6_13 := cell_below bb13 qP0_6; have qP1_0_13 := cell_below bb13 qP1_0; have qP1_1_13 := cell_below bb13 qP1_1; have qP1_2_13 := cell_below bb13 qP1_2; have qP1_3_13 := cell_below bb13 qP1_3; have qP1_4_13 := cell_below bb13 qP1_4; have qP1_5_13 := cell_below bb13 qP1_5; have qP1_6_13 := cell_below bb13 qP1_6; have qP1_7_13 := cell_below bb13 qP1_7; have qP1_8_13 := cell_below bb13 qP1_8; have qP1_9_13 := cell_below bb13 qP1_9; have qP1_10_13 := cell_below bb13 qP1_10; have qP1_11_13 := cell_below bb13 qP1_11; have qP2_0_13 := cell_below bb13 qP2_0; have qP2_1_13 := cell_below bb13 qP2_1; have qP2_2_13 := cell_below bb13 qP2_2) | (go_at_call 24; refine (toPatch_c t0 t1 t2 t3 t4 t5 t6 t7 t8 t9 t10 t11 _).mono ?_; rintro e w14 ⟨rfl, b⟩; have bb14 : Below w13.heap.size w13 w14 := (by first | exact b | exact (Below.drew (Below.refl _ _)).trans (b.mono (by simp))); clear b; have B14 := B13.trans (bb14.mono B13.size); have Y14 := bb14.size; have Z14 : w0.heap.size ≤ w14.heap.size := B14.size; have qP0_0_14 := cell_below bb14 qP0_0_13; have qP0_1_14 := cell_below bb14 qP0_1_13; have qP0_2_14 := cell_below bb14 qP0_2_13; have qP0_3_14 := cell_below bb14 qP0_3_13; have qP0_4_14 := cell_below bb14 qP0_4_13; have qP0_5_14 := cell_below bb14 qP0_5_13; have qP0_6_14 := cell_below bb14 qP0_6_13; have qP1_0_14 := cell_below bb14 qP1_0_13; have qP1_1_14 := cell_below bb14 qP1_1_13; have qP1_2_14 := cell_below bb14 qP1_2_13; have qP1_3_14 := cell_below bb14 qP1_3_13; have qP1_4_14 := cell_below bb14 qP1_4_13; have qP1_5_14 := cell_below bb14 qP1_5_13; have qP1_6_14 := cell_below bb14 qP1_6_13; have qP1_7_14 := cell_below bb14 qP1_7_13; have qP1_8_14 := cell_below bb14 qP1_8_13; have qP1_9_14 := cell_below bb14 qP1_9_13; have qP1_10_14 := cell_below bb14 qP1_10_13; have qP1_11_14 := cell_below bb14 qP1_11_13; have qP2_0_14 := cell_below bb14 qP2_0_13; have qP2_1_14 := cell_below bb14 qP2_1_13; have qP2_2_14 := cell_below bb14 qP2_2_13) | (go_at_call 32; refine (toSubPatch_c qU qV qN _).mono ?_; rintro e w15 ⟨rfl, b⟩; have bb15 : Below w14.heap.size w14 w15 := (by first | exact b | exact (Below.drew (Below.refl _ _)).trans (b.mono (by simp))); clear b; have B15 := B14.trans (bb15.mono B14.size); have Y15 := bb15.size; have Z15 : w0.heap.size ≤ w15.heap.size := B15.size; have qP0_0_15 := cell_below bb15 qP0_0_14; have qP0_1_15 := cell_below bb15 qP0_1_14; have qP0_2_15 := cell_below bb15 qP0_2_14; have qP0_3_15 := cell_below bb15 qP0_3_14; have qP0_4_15 := cell_below bb15 qP0_4_14; have qP0_5_15 := cell_below bb15 qP0_5_14; have qP0_6_15 := cell_below bb15 qP0_6_14; have qP1_0_15 := cell_below bb15 qP1_0_14; have qP1_1_15 := cell_below bb15 qP1_1_14; have qP1_2_15 := cell_below bb15 qP1_2_14; have qP1_3_15 := cell_below bb15 qP1_3_14; have qP1_4_15 := cell_below bb15 qP1_4_14; have qP1_5_15 := cell_below bb15 qP1_5_14; have qP1_6_15 := cell_below bb15 qP1_6_14; have qP1_7_15 := cell_below bb15 qP1_7_14; have qP1_8_15 := cell_below bb15 qP1_8_14; have qP1_9_15 := cell_below bb15 qP1_9_14; have qP1_10_15 := cell_below bb15 qP1_10_14; have qP1_11_15 := cell_below bb15 qP1_11_14; have qP2_0_15 := cell_below bb15 qP2_0_14; have qP2_1_15 := cell_below bb15 qP2_1_14; have qP2_2_15 := cell_below bb15 qP2_2_14) | (go_at_call 20; refine (impl_DiceSubPatch_c (⟨cW, cH, cZ, cN, cD, cL, cF⟩ : CamD) (⟨t0, t1, t2, t3, t4, t5, t6, t7, t8, t9, t10, t11⟩ : PatD) qU qV qN x3 x4 x5 _).mono ?_; rintro e w16 ⟨x12_a, x12_c, rfl, x12_o, b⟩; have bb16 : Below w15.heap.size w15 w16 := (by first | exact b | exact (Below.drew (Below.refl _ _)).trans (b.mono (by simp))); clear b; have B16 := B15.trans (bb16.mono B15.size); have Y16 := bb16.size; have Z16 : w0.heap.size ≤ w16.heap.size := B16.size; have qP0_0_16 := cell_below bb16 qP0_0_15; have qP0_1_16 := cell_below bb16 qP0_1_15; have qP0_2_16 := cell_below bb16 qP0_2_15; have qP0_3_16 := cell_below bb16 qP0_3_15; have qP0_4_16 := cell_below bb16 qP0_4_15; have qP0_5_16 := cell_below bb16 qP0_5_15; have qP0_6_16 := cell_below bb16 qP0_6_15; have qP1_0_16 := cell_below bb16 qP1_0_15; have qP1_1_16 := cell_below bb16 qP1_1_15; have qP1_2_16 := cell_below bb16 qP1_2_15; have qP1_3_16 := cell_below bb16 qP1_3_15; have qP1_4_16 := cell_below bb16 qP1_4_15; have qP1_5_16 := cell_below bb16 qP1_5_15; have qP1_6_16 := cell_below bb16 qP1_6_15; have qP1_7_16 := cell_below bb16 qP1_7_15; have qP1_8_16 := cell_below bb16 qP1_8_15; have qP1_9_16 := cell_below bb16 qP1_9_15; have qP1_10_16 := cell_below bb16 qP1_10_15; have qP1_11_16 := cell_below bb16 qP1_11_15; have qP2_0_16 := cell_below bb16 qP2_0_15; have qP2_1_16 := cell_below bb16 qP2_1_15; have qP2_2_16 := cell_below bb16 qP2_2_15))
  have bb : Below w12.heap.size w12 w16 := (((bb13.trans (bb14.mono (by omega))).trans (bb15.mono (by omega))).trans (bb16.mono (by omega)))
  replace qP0_0 := cell_below bb qP0_0
  replace qP0_1 := cell_below bb qP0_1
  replace qP0_2 := cell_below bb qP0_2
  replace qP0_3 := cell_below bb qP0_3
  replace qP0_4 := cell_below bb qP0_4
  replace qP0_5 := cell_below bb qP0_5
  replace qP0_6 := cell_below bb qP0_6
  clear qP0_0_13 qP0_0_14 qP0_0_15 qP0_0_16 qP0_1_13 qP0_1_14 qP0_1_15 qP0_1_16 qP0_2_13 qP0_2_14 qP0_2_15 qP0_2_16 qP0_3_13 qP0_3_14 qP0_3_15 qP0_3_16 qP0_4_13 qP0_4_14 qP0_4_15 qP0_4_16 qP0_5_13 qP0_5_14 qP0_5_15 qP0_5_16 qP0_6_13 qP0_6_14 qP0_6_15 qP0_6_16
  replace qP1_0 := cell_below bb qP1_0
  replace qP1_1 := cell_below bb qP1_1
  replace qP1_2 := cell_below bb qP1_2
  replace qP1_3 := cell_below bb qP1_3
  replace qP1_4 := cell_below bb qP1_4
  replace qP1_5 := cell_below bb qP1_5
  replace qP1_6 := cell_below bb qP1_6
  replace qP1_7 := cell_below bb qP1_7
  replace qP1_8 := cell_below bb qP1_8
  replace qP1_9 := cell_below bb qP1_9
  replace qP1_10 := cell_below bb qP1_10
  replace qP1_11 := cell_below bb qP1_11
  clear qP1_0_13 qP1_0_14 qP1_0_15 qP1_0_16 qP1_1_13 qP1_1_14 qP1_1_15 qP1_1_16 qP1_2_13 qP1_2_14 qP1_2_15 qP1_2_16 qP1_3_13 qP1_3_14 qP1_3_15 qP1_3_16 qP1_4_13 qP1_4_14 qP1_4_15 qP1_4_16 qP1_5_13 qP1_5_14 qP1_5_15 qP1_5_16 qP1_6_13 qP1_6_14 qP1_6_15 qP1_6_16 qP1_7_13 qP1_7_14 qP1_7_15 qP1_7_16 qP1_8_13 qP1_8_14 qP1_8_15 qP1_8_16 qP1_9_13 qP1_9_14 qP1_9_15 qP1_9_16 qP1_10_13 qP1_10_14 qP1_10_15 qP1_10_16 qP1_11_13 qP1_11_14 qP1_11_15 qP1_11_16
  replace qP2_0 := cell_below bb qP2_0
  replace qP2_1 := cell_below bb qP2_1
  replace qP2_2 := cell_below bb qP2_2
  clear qP2_0_13 qP2_0_14 qP2_0_15 qP2_0_16 qP2_1_13 qP2_1_14 qP2_1_15 qP2_1_16 qP2_2_13 qP2_2_14 qP2_2_15 qP2_2_16
  clear bb
  replace x4_o := x4_o.below (((bb13.trans (bb14.mono (by omega))).trans (bb15.mono (by omega))).trans (bb16.mono (by omega)))
  replace x8_o2 := x8_o2.below (((bb13.trans (bb14.mono (by omega))).trans (bb15.mono (by omega))).trans (bb16.mono (by omega)))
  clear bb13 bb14 bb15 bb16
  go_wp2_with fail
  refine (eqMicropolygonS_c x12_a x4_a x12_c x4_c (dsD (⟨cW, cH, cZ, cN, cD, cL, cF⟩ : CamD) (⟨t0, t1, t2, t3, t4, t5, t6, t7, t8, t9, t10, t11⟩ : PatD) qU qV qN x3 x4 x5) (dsD (⟨cW, cH, cZ, cN, cD, cL, cF⟩ : CamD) (⟨t0, t1, t2, t3, t4, t5, t6, t7, t8, t9, t10, t11⟩ : PatD) qU qV qN x3 x4 x5).length _ (x12_o.sl.below (by repeat (first | exact Below.refl _ _ | refine Below.drew ?_ | refine Below.alloc ?_ (by first | exact Nat.le_refl _ | (simp; done) | (simp; omega) | omega) _ | refine Below.more ?_ (by first | exact Nat.le_refl _ | (simp; done) | (simp; omega) | omega) _ _ | refine Below.setCell ?_ (by first | exact Nat.le_refl _ | (simp; done) | (simp; omega) | omega) _ | assumption))) (x4_o.sl.below (by repeat (first | exact Below.refl _ _ | refine Below.drew ?_ | refine Below.alloc ?_ (by first | exact Nat.le_refl _ | (simp; done) | (simp; omega) | omega) _ | refine Below.more ?_ (by first | exact Nat.le_refl _ | (simp; done) | (simp; omega) | omega) _ _ | refine Below.setCell ?_ (by first | exact Nat.le_refl _ | (simp; done) | (simp; omega) | omega) _ | assumption))) (by omega)).mono ?_
  rintro e w17 ⟨rfl, b⟩
  replace qP0_0 := cell_below b qP0_0
  replace qP0_1 := cell_below b qP0_1
  replace qP0_2 := cell_below b qP0_2
  replace qP0_3 := cell_below b qP0_3
  replace qP0_4 := cell_below b qP0_4
  replace qP0_5 := cell_below b qP0_5
  replace qP0_6 := cell_below b qP0_6
  replace qP1_0 := cell_below b qP1_0
  replace qP1_1 := cell_below b qP1_1
  replace qP1_2 := cell_below b qP1_2
  replace qP1_3 := cell_below b qP1_3
  replace qP1_4 := cell_below b qP1_4
  replace qP1_5 := cell_below b qP1_5
  replace qP1_6 := cell_below b qP1_6
  replace qP1_7 := cell_below b qP1_7
  replace qP1_8 := cell_below b qP1_8
  replace qP1_9 := cell_below b qP1_9
  replace qP1_10 := cell_below b qP1_10
  replace qP1_11 := cell_below b qP1_11
  replace qP2_0 := cell_below b qP2_0
  replace qP2_1 := cell_below b qP2_1
  replace qP2_2 := cell_below b qP2_2
  replace x4_o := x4_o.below b
  replace x8_o2 := x8_o2.below b
  replace x12_o := x12_o.below b
  have B17 := B16.trans (b.mono B16.size)
  have Z17 : w0.heap.size ≤ w17.heap.size := B17.size
  have Y17 : w16.heap.size ≤ w17.heap.size := b.size
  have sP0_17 := World.block_lt_of_cell? _ _ qP0_0
  have sP1_17 := World.block_lt_of_cell? _ _ qP1_0
  have sP2_17 := World.block_lt_of_cell? _ _ qP2_0
  clear b
  go_wp2_with fail
  refine (heldMicropolygonS_c x8_a x8_c (dsD (⟨cW, cH, cZ, cN, cD, cL, cF⟩ : CamD) (⟨t0, t1, t2, t3, t4, t5, t6, t7, t8, t9, t10, t11⟩ : PatD) qU qV qN x3 x4 x5) (dsD (⟨cW, cH, cZ, cN, cD, cL, cF⟩ : CamD) (⟨t0, t1, t2, t3, t4, t5, t6, t7, t8, t9, t10, t11⟩ : PatD) qU qV qN x3 x4 x5).length 1 _ x8_o2.sl (by omega) (by omega)).mono ?_
  rintro e w18 ⟨rfl, b⟩
  replace qP0_0 := cell_below b qP0_0
  replace qP0_1 := cell_below b qP0_1
  replace qP0_2 := cell_below b qP0_2
  replace qP0_3 := cell_below b qP0_3
  replace qP0_4 := cell_below b qP0_4
  replace qP0_5 := cell_below b qP0_5
  replace qP0_6 := cell_below b qP0_6
  replace qP1_0 := cell_below b qP1_0
  replace qP1_1 := cell_below b qP1_1
  replace qP1_2 := cell_below b qP1_2
  replace qP1_3 := cell_below b qP1_3
  replace qP1_4 := cell_below b qP1_4
  replace qP1_5 := cell_below b qP1_5
  replace qP1_6 := cell_below b qP1_6
  replace qP1_7 := cell_below b qP1_7
  replace qP1_8 := cell_below b qP1_8
  replace qP1_9 := cell_below b qP1_9
  replace qP1_10 := cell_below b qP1_10
  replace qP1_11 := cell_below b qP1_11
  replace qP2_0 := cell_below b qP2_0
  replace qP2_1 := cell_below b qP2_1
  replace qP2_2 := cell_below b qP2_2
  replace x4_o := x4_o.below b
  replace x8_o2 := x8_o2.below b
  replace x12_o := x12_o.below b
  have B18 := B17.trans (b.mono B17.size)
  have Z18 : w0.heap.size ≤ w18.heap.size := B18.size
  have Y18 : w17.heap.size ≤ w18.heap.size := b.size
  have sP0_18 := World.block_lt_of_cell? _ _ qP0_0
  have sP1_18 := World.block_lt_of_cell? _ _ qP1_0
  have sP2_18 := World.block_lt_of_cell? _ _ qP2_0
  clear b
  go_wp2
  go_ret
  exact ⟨rfl, B18⟩
end Go.Proofs.Ytkdkdejgajcneaa
