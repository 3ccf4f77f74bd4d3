/- The walk of the law FnExactDicePatch. -/
import Derived.Test.YtkdkdejgajcneaaDicePatch
import Derived.Test.YtkdkdejgajcneaaLawInterpolate
import Derived.Test.YtkdkdejgajcneaaOpen
import Derived.Deep.RegionHeld3
namespace Go.Proofs.Ytkdkdejgajcneaa
open Go.RowKit Go.ChangeShapes
set_option maxRecDepth 100000 in
set_option maxHeartbeats 8000000 in
theorem law_DicePatch {H : Type} {enc : TypeId × Value → H} {W : World} {base : Nat} {v0 v1 v2 v3 v4 : Value} {d0 d1 d2 d3 d4 : DataW H} {p0 p1 p2 p3 p4 : List MemPlace}
    (k0 : Value.okWide Try.prog W .any base 48 v0) (h0 : DataW.Trod enc Try.prog W 0 (fun _ => true) true 48 v0 d0 p0)
    (k1 : Value.okWide Try.prog W .any base 52 v1) (h1 : DataW.Trod enc Try.prog W 0 (fun _ => true) true 52 v1 d1 p1)
    (k2 : Value.okWide Try.prog W .any base 3 v2) (h2 : DataW.Trod enc Try.prog W 0 (fun _ => true) true 3 v2 d2 p2)
    (k3 : Value.okWide Try.prog W .any base 3 v3) (h3 : DataW.Trod enc Try.prog W 0 (fun _ => true) true 3 v3 d3 p3)
    (k4 : Value.okWide Try.prog W .any base 3 v4) (h4 : DataW.Trod enc Try.prog W 0 (fun _ => true) true 3 v4 d4 p4)
    : Calls Try.prog 6 #[v0, v1, v2, v3, v4] W fun e W' => e = .returned (.bool true) ∧ Below W.heap.size W W' := by
  obtain ⟨cW, cH, cZ, cN, cD, cL, cF, rfl, _, _, _, _, _, _⟩ := open_camera k0
  obtain ⟨t0, t1, t2, t3, t4, t5, t6, t7, t8, t9, t10, t11, rfl, _⟩ := open_patch k1
  obtain ⟨x2, rfl, _, _, wf2⟩ := open_int Try.underlying3 k2 h2
  obtain ⟨x3, rfl, _, _, wf3⟩ := open_int Try.underlying3 k3 h3
  obtain ⟨x4, rfl, _, _, wf4⟩ := open_int Try.underlying3 k4 h4
  clear k0 h0 k1 h1 k2 h2 k3 h3 k4 h4
  obtain ⟨w0, rfl⟩ : ∃ w0, w0 = W := ⟨W, rfl⟩
  have B0 := Below.refl w0.heap.size w0
  have Z0 : w0.heap.size ≤ w0.heap.size := Nat.le_refl _
  go_enter Try.func6, Try.ntmps6
  have hres : (dsD (⟨cW, cH, cZ, cN, cD, cL, cF⟩ : CamD) (⟨t0, t1, t2, t3, t4, t5, t6, t7, t8, t9, t10, t11⟩ : PatD) 0 0 1 x2 x3 x4).length ≤ 1048576 := dsD_len _ _ _ _ _ _ _ _
  go_wp2
  obtain ⟨w1, hw1⟩ : ∃ w1, w1 = ((w0.alloc (.cells #[.int .i64 cW, .int .i64 cH, .int .i64 cZ, .int .i64 cN, .bool cD, .int .i64 cL, .int .i64 cF] 48)).alloc (.cells #[.int .i64 t0, .int .i64 t1, .int .i64 t2, .int .i64 t3, .int .i64 t4, .int .i64 t5, .int .i64 t6, .int .i64 t7, .int .i64 t8, .int .i64 t9, .int .i64 t10, .int .i64 t11] 52)) := ⟨_, rfl⟩
  rw [← hw1]
  have bb : Below w0.heap.size w0 w1 := by rw [hw1]; exact (Below.alloc (Below.alloc (Below.refl w0.heap.size w0) (Nat.le_refl _) _) (by simp) _)
  have qP0_0 : w1.cell? ⟨w0.heap.size, 0, none⟩ = some (.int .i64 cW) := by rw [hw1]; simp [go_sem]
  have qP0_1 : w1.cell? ⟨w0.heap.size, 1, none⟩ = some (.int .i64 cH) := by rw [hw1]; simp [go_sem]
  have qP0_2 : w1.cell? ⟨w0.heap.size, 2, none⟩ = some (.int .i64 cZ) := by rw [hw1]; simp [go_sem]
  have qP0_3 : w1.cell? ⟨w0.heap.size, 3, none⟩ = some (.int .i64 cN) := by rw [hw1]; simp [go_sem]
  have qP0_4 : w1.cell? ⟨w0.heap.size, 4, none⟩ = some (.bool cD) := by rw [hw1]; simp [go_sem]
  have qP0_5 : w1.cell? ⟨w0.heap.size, 5, none⟩ = some (.int .i64 cL) := by rw [hw1]; simp [go_sem]
  have qP0_6 : w1.cell? ⟨w0.heap.size, 6, none⟩ = some (.int .i64 cF) := by rw [hw1]; simp [go_sem]
  have qP1_0 : w1.cell? ⟨w0.heap.size + 1, 0, none⟩ = some (.int .i64 t0) := by rw [hw1]; simp [go_sem]
  have qP1_1 : w1.cell? ⟨w0.heap.size + 1, 1, none⟩ = some (.int .i64 t1) := by rw [hw1]; simp [go_sem]
  have qP1_2 : w1.cell? ⟨w0.heap.size + 1, 2, none⟩ = some (.int .i64 t2) := by rw [hw1]; simp [go_sem]
  have qP1_3 : w1.cell? ⟨w0.heap.size + 1, 3, none⟩ = some (.int .i64 t3) := by rw [hw1]; simp [go_sem]
  have qP1_4 : w1.cell? ⟨w0.heap.size + 1, 4, none⟩ = some (.int .i64 t4) := by rw [hw1]; simp [go_sem]
  have qP1_5 : w1.cell? ⟨w0.heap.size + 1, 5, none⟩ = some (.int .i64 t5) := by rw [hw1]; simp [go_sem]
  have qP1_6 : w1.cell? ⟨w0.heap.size + 1, 6, none⟩ = some (.int .i64 t6) := by rw [hw1]; simp [go_sem]
  have qP1_7 : w1.cell? ⟨w0.heap.size + 1, 7, none⟩ = some (.int .i64 t7) := by rw [hw1]; simp [go_sem]
  have qP1_8 : w1.cell? ⟨w0.heap.size + 1, 8, none⟩ = some (.int .i64 t8) := by rw [hw1]; simp [go_sem]
  have qP1_9 : w1.cell? ⟨w0.heap.size + 1, 9, none⟩ = some (.int .i64 t9) := by rw [hw1]; simp [go_sem]
  have qP1_10 : w1.cell? ⟨w0.heap.size + 1, 10, none⟩ = some (.int .i64 t10) := by rw [hw1]; simp [go_sem]
  have qP1_11 : w1.cell? ⟨w0.heap.size + 1, 11, none⟩ = some (.int .i64 t11) := by rw [hw1]; simp [go_sem]
  clear hw1
  have B1 := B0.trans (bb.mono B0.size)
  have Z1 : w0.heap.size ≤ w1.heap.size := B1.size
  have Y1 : w0.heap.size ≤ w1.heap.size := bb.size
  have sP0_1 := World.block_lt_of_cell? _ _ qP0_0
  have sP1_1 := World.block_lt_of_cell? _ _ qP1_0
  clear bb
  have yP0 := World.block_lt_of_cell? _ _ qP0_0
  have yP1 := World.block_lt_of_cell? _ _ qP1_0
  go_wp2
  go_region_held3 (fun w' => (w'.cell? ⟨w0.heap.size, 0, none⟩ = some (.int .i64 cW) ∧ w'.cell? ⟨w0.heap.size, 1, none⟩ = some (.int .i64 cH) ∧ w'.cell? ⟨w0.heap.size, 2, none⟩ = some (.int .i64 cZ) ∧ w'.cell? ⟨w0.heap.size, 3, none⟩ = some (.int .i64 cN) ∧ w'.cell? ⟨w0.heap.size, 4, none⟩ = some (.bool cD) ∧ w'.cell? ⟨w0.heap.size, 5, none⟩ = some (.int .i64 cL) ∧ w'.cell? ⟨w0.heap.size, 6, none⟩ = some (.int .i64 cF)) ∧ (w'.cell? ⟨w0.heap.size + 1, 0, none⟩ = some (.int .i64 t0) ∧ w'.cell? ⟨w0.heap.size + 1, 1, none⟩ = some (.int .i64 t1) ∧ w'.cell? ⟨w0.heap.size + 1, 2, none⟩ = some (.int .i64 t2) ∧ w'.cell? ⟨w0.heap.size + 1, 3, none⟩ = some (.int .i64 t3) ∧ w'.cell? ⟨w0.heap.size + 1, 4, none⟩ = some (.int .i64 t4) ∧ w'.cell? ⟨w0.heap.size + 1, 5, none⟩ = some (.int .i64 t5) ∧ w'.cell? ⟨w0.heap.size + 1, 6, none⟩ = some (.int .i64 t6) ∧ w'.cell? ⟨w0.heap.size + 1, 7, none⟩ = some (.int .i64 t7) ∧ w'.cell? ⟨w0.heap.size + 1, 8, none⟩ = some (.int .i64 t8) ∧ w'.cell? ⟨w0.heap.size + 1, 9, none⟩ = some (.int .i64 t9) ∧ w'.cell? ⟨w0.heap.size + 1, 10, none⟩ = some (.int .i64 t10) ∧ w'.cell? ⟨w0.heap.size + 1, 11, none⟩ = some (.int .i64 t11))) (go_keep) (first | (go_at_call 23; refine (toCamera_c cW cH cZ cN cD cL cF _).mono ?_; rintro e w2 ⟨rfl, b⟩; have bb2 : Below w1.heap.size w1 w2 := (by first | exact b | exact (Below.drew (Below.refl _ _)).trans (b.mono (by simp))); clear b; have B2 := B1.trans (bb2.mono B1.size); have Y2 := bb2.size; have Z2 : w0.heap.size ≤ w2.heap.size := B2.size; have qP0_0_2 := cell_below bb2 qP0_0; have qP0_1_2 := cell_below bb2 qP0_1; have qP0_2_2 := cell_below bb2 qP0_2; have qP0_3_2 := cell_below bb2 qP0_3; have qP0_4_2 := cell_below bb2 qP0_4; have qP0_5_2 := cell_below bb2 qP0_5; have qP0_6_2 := cell_below bb2 qP0_6; have qP1_0_2 := cell_below bb2 qP1_0; have qP1_1_2 := cell_below bb2 qP1_1; have qP1_2_2 := cell_below bb2 qP1_2; have qP1_3_2 := cell_below bb2 qP1_3; have qP1_4_2 := cell_below bb2 qP1_4; have qP1_5_2 := cell_below bb2 qP1_5; have qP1_6_2 := cell_below bb2 qP1_6; have qP1_7_2 := cell_below bb2 qP1_7; have qP1_8_2 := cell_below bb2 qP1_8; have qP1_9_2 := cell_below bb2 qP1_9; have qP1_10_2 := cell_below bb2 qP1_10; have qP1_11_2 := cell_below bb2 qP1_11) | (go_at_call 24; refine (toPatch_c t0 t1 t2 t3 t4 t5 t6 t7 t8 t9 t10 t11 _).mono ?_; rintro e w3 ⟨rfl, b⟩; have bb3 : Below w2.heap.size w2 w3 := (by first | exact b | exact (Below.drew (Below.refl _ _)).trans (b.mono (by simp))); clear b; have B3 := B2.trans (bb3.mono B2.size); have Y3 := bb3.size; have Z3 : w0.heap.size ≤ w3.heap.size := B3.size; have qP0_0_3 := cell_below bb3 qP0_0_2; have qP0_1_3 := cell_below bb3 qP0_1_2; have qP0_2_3 := cell_below bb3 qP0_2_2; have qP0_3_3 := cell_below bb3 qP0_3_2; have qP0_4_3 := cell_below bb3 qP0_4_2; have qP0_5_3 := cell_below bb3 qP0_5_2; have qP0_6_3 := cell_below bb3 qP0_6_2; have qP1_0_3 := cell_below bb3 qP1_0_2; have qP1_1_3 := cell_below bb3 qP1_1_2; have qP1_2_3 := cell_below bb3 qP1_2_2; have qP1_3_3 := cell_below bb3 qP1_3_2; have qP1_4_3 := cell_below bb3 qP1_4_2; have qP1_5_3 := cell_below bb3 qP1_5_2; have qP1_6_3 := cell_below bb3 qP1_6_2; have qP1_7_3 := cell_below bb3 qP1_7_2; have qP1_8_3 := cell_below bb3 qP1_8_2; have qP1_9_3 := cell_below bb3 qP1_9_2; have qP1_10_3 := cell_below bb3 qP1_10_2; have qP1_11_3 := cell_below bb3 qP1_11_2) | (go_at_call 30; refine (spec_DicePatch_c (⟨cW, cH, cZ, cN, cD, cL, cF⟩ : CamD) (⟨t0, t1, t2, t3, t4, t5, t6, t7, t8, t9, t10, t11⟩ : PatD) x2 x3 x4 _).mono ?_; rintro e w4 ⟨x3_a, x3_c, rfl, x3_o, b⟩; have bb4 : Below w3.heap.size w3 w4 := (by first | exact b | exact (Below.drew (Below.refl _ _)).trans (b.mono (by simp))); clear b; have B4 := B3.trans (bb4.mono B3.size); have Y4 := bb4.size; have Z4 : w0.heap.size ≤ w4.heap.size := B4.size; have qP0_0_4 := cell_below bb4 qP0_0_3; have qP0_1_4 := cell_below bb4 qP0_1_3; have qP0_2_4 := cell_below bb4 qP0_2_3; have qP0_3_4 := cell_below bb4 qP0_3_3; have qP0_4_4 := cell_below bb4 qP0_4_3; have qP0_5_4 := cell_below bb4 qP0_5_3; have qP0_6_4 := cell_below bb4 qP0_6_3; have qP1_0_4 := cell_below bb4 qP1_0_3; have qP1_1_4 := cell_below bb4 qP1_1_3; have qP1_2_4 := cell_below bb4 qP1_2_3; have qP1_3_4 := cell_below bb4 qP1_3_3; have qP1_4_4 := cell_below bb4 qP1_4_3; have qP1_5_4 := cell_below bb4 qP1_5_3; have qP1_6_4 := cell_below bb4 qP1_6_3; have qP1_7_4 := cell_below bb4 qP1_7_3; have qP1_8_4 := cell_below bb4 qP1_8_3; have qP1_9_4 := cell_below bb4 qP1_9_3; have qP1_10_4 := cell_below bb4 qP1_10_3; have qP1_11_4 := cell_below bb4 qP1_11_3))
  have bb : Below w1.heap.size w1 w4 := ((bb2.trans (bb3.mono (by omega))).trans (bb4.mono (by omega)))
  replace qP0_0 := cell_below bb qP0_0
  replace qP0_1 := cell_below bb qP0_1
  replace qP0_2 := cell_below bb qP0_2
  replace qP0_3 := cell_below bb qP0_3
  replace qP0_4 := cell_below bb qP0_4
  replace qP0_5 := cell_below bb qP0_5
  replace qP0_6 := cell_below bb qP0_6
  clear qP0_0_2 qP0_0_3 qP0_0_4 qP0_1_2 qP0_1_3 qP0_1_4 qP0_2_2 qP0_2_3 qP0_2_4 qP0_3_2 qP0_3_3 qP0_3_4 qP0_4_2 qP0_4_3 qP0_4_4 qP0_5_2 qP0_5_3 qP0_5_4 qP0_6_2 qP0_6_3 qP0_6_4
  replace qP1_0 := cell_below bb qP1_0
  replace qP1_1 := cell_below bb qP1_1
  replace qP1_2 := cell_below bb qP1_2
  replace qP1_3 := cell_below bb qP1_3
  replace qP1_4 := cell_below bb qP1_4
  replace qP1_5 := cell_below bb qP1_5
  replace qP1_6 := cell_below bb qP1_6
  replace qP1_7 := cell_below bb qP1_7
  replace qP1_8 := cell_below bb qP1_8
  replace qP1_9 := cell_below bb qP1_9
  replace qP1_10 := cell_below bb qP1_10
  replace qP1_11 := cell_below bb qP1_11
  clear qP1_0_2 qP1_0_3 qP1_0_4 qP1_1_2 qP1_1_3 qP1_1_4 qP1_2_2 qP1_2_3 qP1_2_4 qP1_3_2 qP1_3_3 qP1_3_4 qP1_4_2 qP1_4_3 qP1_4_4 qP1_5_2 qP1_5_3 qP1_5_4 qP1_6_2 qP1_6_3 qP1_6_4 qP1_7_2 qP1_7_3 qP1_7_4 qP1_8_2 qP1_8_3 qP1_8_4 qP1_9_2 qP1_9_3 qP1_9_4 qP1_10_2 qP1_10_3 qP1_10_4 qP1_11_2 qP1_11_3 qP1_11_4
  clear bb
  clear bb2 bb3 bb4
  have yP0 := World.block_lt_of_cell? _ _ qP0_0
  have yP1 := World.block_lt_of_cell? _ _ qP1_0
  go_wp2
  go_region_held3 (fun w' => (w'.cell? ⟨w0.heap.size, 0, none⟩ = some (.int .i64 cW) ∧ w'.cell? ⟨w0.heap.size, 1, none⟩ = some (.int .i64 cH) ∧ w'.cell? ⟨w0.heap.size, 2, none⟩ = some (.int .i64 cZ) ∧ w'.cell? ⟨w0.heap.size, 3, none⟩ = some (.int .i64 cN) ∧ w'.cell? ⟨w0.heap.size, 4, none⟩ = some (.bool cD) ∧ w'.cell? ⟨w0.heap.size, 5, none⟩ = some (.int .i64 cL) ∧ w'.cell? ⟨w0.heap.size, 6, none⟩ = some (.int .i64 cF)) ∧ (w'.cell? ⟨w0.heap.size + 1, 0, none⟩ = some (.int .i64 t0) ∧ w'.cell? ⟨w0.heap.size + 1, 1, none⟩ = some (.int .i64 t1) ∧ w'.cell? ⟨w0.heap.size + 1, 2, none⟩ = some (.int .i64 t2) ∧ w'.cell? ⟨w0.heap.size + 1, 3, none⟩ = some (.int .i64 t3) ∧ w'.cell? ⟨w0.heap.size + 1, 4, none⟩ = some (.int .i64 t4) ∧ w'.cell? ⟨w0.heap.size + 1, 5, none⟩ = some (.int .i64 t5) ∧ w'.cell? ⟨w0.heap.size + 1, 6, none⟩ = some (.int .i64 t6) ∧ w'.cell? ⟨w0.heap.size + 1, 7, none⟩ = some (.int .i64 t7) ∧ w'.cell? ⟨w0.heap.size + 1, 8, none⟩ = some (.int .i64 t8) ∧ w'.cell? ⟨w0.heap.size + 1, 9, none⟩ = some (.int .i64 t9) ∧ w'.cell? ⟨w0.heap.size + 1, 10, none⟩ = some (.int .i64 t10) ∧ w'.cell? ⟨w0.heap.size + 1, 11, none⟩ = some (.int .i64 t11))) (go_keep) (first | (go_at_call 23; refine (toCamera_c cW cH cZ cN cD cL cF _).mono ?_; rintro e w5 ⟨rfl, b⟩; have bb5 : Below w4.heap.size w4 w5 := (by first | exact b | exact (Below.drew (Below.refl _ _)).trans (b.mono (by simp))); clear b; have B5 := B4.trans (bb5.mono B4.size); have Y5 := bb5.size; have Z5 : w0.heap.size ≤ w5.heap.size := B5.size; have qP0_0_5 := cell_below bb5 qP0_0; have qP0_1_5 := cell_below bb5 qP0_1; have qP0_2_5 := cell_below bb5 qP0_2; have qP0_3_5 := cell_below bb5 qP0_3; have qP0_4_5 := cell_below bb5 qP0_4; have qP0_5_5 := cell_below bb5 qP0_5; have qP0_6_5 := cell_below bb5 qP0_6; have qP1_0_5 := cell_below bb5 qP1_0; have qP1_1_5 := cell_below bb5 qP1_1; have qP1_2_5 := cell_below bb5 qP1_2; have qP1_3_5 := cell_below bb5 qP1_3; have qP1_4_5 := cell_below bb5 qP1_4; have qP1_5_5 := cell_below bb5 qP1_5; have qP1_6_5 := cell_below bb5 qP1_6; have qP1_7_5 := cell_below bb5 qP1_7; have qP1_8_5 := cell_below bb5 qP1_8; have qP1_9_5 := cell_below bb5 qP1_9; have qP1_10_5 := cell_below bb5 qP1_10; have qP1_11_5 := cell_below bb5 qP1_11) | (go_at_call 24; refine (toPatch_c t0 t1 t2 t3 t4 t5 t6 t7 t8 t9 t10 t11 _).mono ?_; rintro e w6 ⟨rfl, b⟩; have bb6 : Below w5.heap.size w5 w6 := (by first | exact b | exact (Below.drew (Below.refl _ _)).trans (b.mono (by simp))); clear b; have B6 := B5.trans (bb6.mono B5.size); have Y6 := bb6.size; have Z6 : w0.heap.size ≤ w6.heap.size := B6.size; have qP0_0_6 := cell_below bb6 qP0_0_5; have qP0_1_6 := cell_below bb6 qP0_1_5; have qP0_2_6 := cell_below bb6 qP0_2_5; have qP0_3_6 := cell_below bb6 qP0_3_5; have qP0_4_6 := cell_below bb6 qP0_4_5; have qP0_5_6 := cell_below bb6 qP0_5_5; have qP0_6_6 := cell_below bb6 qP0_6_5; have qP1_0_6 := cell_below bb6 qP1_0_5; have qP1_1_6 := cell_below bb6 qP1_1_5; have qP1_2_6 := cell_below bb6 qP1_2_5; have qP1_3_6 := cell_below bb6 qP1_3_5; have qP1_4_6 := cell_below bb6 qP1_4_5; have qP1_5_6 := cell_below bb6 qP1_5_5; have qP1_6_6 := cell_below bb6 qP1_6_5; have qP1_7_6 := cell_below bb6 qP1_7_5; have qP1_8_6 := cell_below bb6 qP1_8_5; have qP1_9_6 := cell_below bb6 qP1_9_5; have qP1_10_6 := cell_below bb6 qP1_10_5; have qP1_11_6 := cell_below bb6 qP1_11_5) | (go_at_call 18; refine (impl_DicePatch_c (⟨cW, cH, cZ, cN, cD, cL, cF⟩ : CamD) (⟨t0, t1, t2, t3, t4, t5, t6, t7, t8, t9, t10, t11⟩ : PatD) x2 x3 x4 _).mono ?_; rintro e w7 ⟨x6_a, x6_c, rfl, x6_o, b⟩; have bb7 : Below w6.heap.size w6 w7 := (by first | exact b | exact (Below.drew (Below.refl _ _)).trans (b.mono (by simp))); clear b; have B7 := B6.trans (bb7.mono B6.size); have Y7 := bb7.size; have Z7 : w0.heap.size ≤ w7.heap.size := B7.size; have qP0_0_7 := cell_below bb7 qP0_0_6; have qP0_1_7 := cell_below bb7 qP0_1_6; have qP0_2_7 := cell_below bb7 qP0_2_6; have qP0_3_7 := cell_below bb7 qP0_3_6; have qP0_4_7 := cell_below bb7 qP0_4_6; have qP0_5_7 := cell_below bb7 qP0_5_6; have qP0_6_7 := cell_below bb7 qP0_6_6; have qP1_0_7 := cell_below bb7 qP1_0_6; have qP1_1_7 := cell_below bb7 qP1_1_6; have qP1_2_7 := cell_below bb7 qP1_2_6; have qP1_3_7 := cell_below bb7 qP1_3_6; have qP1_4_7 := cell_below bb7 qP1_4_6; have qP1_5_7 := cell_below bb7 qP1_5_6; have qP1_6_7 := cell_below bb7 qP1_6_6; have qP1_7_7 := cell_below bb7 qP1_7_6; have qP1_8_7 := cell_below bb7 qP1_8_6; have qP1_9_7 := cell_below bb7 qP1_9_6; have qP1_10_7 := cell_below bb7 qP1_10_6; have qP1_11_7 := cell_below bb7 qP1_11_6))
  have bb : Below w4.heap.size w4 w7 := ((bb5.trans (bb6.mono (by omega))).trans (bb7.mono (by omega)))
  replace qP0_0 := cell_below bb qP0_0
  replace qP0_1 := cell_below bb qP0_1
  replace qP0_2 := cell_below bb qP0_2
  replace qP0_3 := cell_below bb qP0_3
  replace qP0_4 := cell_below bb qP0_4
  replace qP0_5 := cell_below bb qP0_5
  replace qP0_6 := cell_below bb qP0_6
  clear qP0_0_5 qP0_0_6 qP0_0_7 qP0_1_5 qP0_1_6 qP0_1_7 qP0_2_5 qP0_2_6 qP0_2_7 qP0_3_5 qP0_3_6 qP0_3_7 qP0_4_5 qP0_4_6 qP0_4_7 qP0_5_5 qP0_5_6 qP0_5_7 qP0_6_5 qP0_6_6 qP0_6_7
  replace qP1_0 := cell_below bb qP1_0
  replace qP1_1 := cell_below bb qP1_1
  replace qP1_2 := cell_below bb qP1_2
  replace qP1_3 := cell_below bb qP1_3
  replace qP1_4 := cell_below bb qP1_4
  replace qP1_5 := cell_below bb qP1_5
  replace qP1_6 := cell_below bb qP1_6
  replace qP1_7 := cell_below bb qP1_7
  replace qP1_8 := cell_below bb qP1_8
  replace qP1_9 := cell_below bb qP1_9
  replace qP1_10 := cell_below bb qP1_10
  replace qP1_11 := cell_below bb qP1_11
  clear qP1_0_5 qP1_0_6 qP1_0_7 qP1_1_5 qP1_1_6 qP1_1_7 qP1_2_5 qP1_2_6 qP1_2_7 qP1_3_5 qP1_3_6 qP1_3_7 qP1_4_5 qP1_4_6 qP1_4_7 qP1_5_5 qP1_5_6 qP1_5_7 qP1_6_5 qP1_6_6 qP1_6_7 qP1_7_5 qP1_7_6 qP1_7_7 qP1_8_5 qP1_8_6 qP1_8_7 qP1_9_5 qP1_9_6 qP1_9_7 qP1_10_5 qP1_10_6 qP1_10_7 qP1_11_5 qP1_11_6 qP1_11_7
  clear bb
  replace x3_o := x3_o.below ((bb5.trans (bb6.mono (by omega))).trans (bb7.mono (by omega)))
  clear bb5 bb6 bb7
  go_wp2_with fail
  refine (eqMicropolygonS_c x6_a x3_a x6_c x3_c (dsD (⟨cW, cH, cZ, cN, cD, cL, cF⟩ : CamD) (⟨t0, t1, t2, t3, t4, t5, t6, t7, t8, t9, t10, t11⟩ : PatD) 0 0 1 x2 x3 x4) (dsD (⟨cW, cH, cZ, cN, cD, cL, cF⟩ : CamD) (⟨t0, t1, t2, t3, t4, t5, t6, t7, t8, t9, t10, t11⟩ : PatD) 0 0 1 x2 x3 x4).length _ (x6_o.sl.below (by repeat (first | exact Below.refl _ _ | refine Below.drew ?_ | refine Below.alloc ?_ (by first | exact Nat.le_refl _ | (simp; done) | (simp; omega) | omega) _ | refine Below.more ?_ (by first | exact Nat.le_refl _ | (simp; done) | (simp; omega) | omega) _ _ | refine Below.setCell ?_ (by first | exact Nat.le_refl _ | (simp; done) | (simp; omega) | omega) _ | assumption))) (x3_o.sl.below (by repeat (first | exact Below.refl _ _ | refine Below.drew ?_ | refine Below.alloc ?_ (by first | exact Nat.le_refl _ | (simp; done) | (simp; omega) | omega) _ | refine Below.more ?_ (by first | exact Nat.le_refl _ | (simp; done) | (simp; omega) | omega) _ _ | refine Below.setCell ?_ (by first | exact Nat.le_refl _ | (simp; done) | (simp; omega) | omega) _ | assumption))) (by omega)).mono ?_
  rintro e w8 ⟨rfl, b⟩
  replace qP0_0 := cell_below b qP0_0
  replace qP0_1 := cell_below b qP0_1
  replace qP0_2 := cell_below b qP0_2
  replace qP0_3 := cell_below b qP0_3
  replace qP0_4 := cell_below b qP0_4
  replace qP0_5 := cell_below b qP0_5
  replace qP0_6 := cell_below b qP0_6
  replace qP1_0 := cell_below b qP1_0
  replace qP1_1 := cell_below b qP1_1
  replace qP1_2 := cell_below b qP1_2
  replace qP1_3 := cell_below b qP1_3
  replace qP1_4 := cell_below b qP1_4
  replace qP1_5 := cell_below b qP1_5
  replace qP1_6 := cell_below b qP1_6
  replace qP1_7 := cell_below b qP1_7
  replace qP1_8 := cell_below b qP1_8
  replace qP1_9 := cell_below b qP1_9
  replace qP1_10 := cell_below b qP1_10
  replace qP1_11 := cell_below b qP1_11
  replace x3_o := x3_o.below b
  replace x6_o := x6_o.below b
  have B8 := B7.trans (b.mono B7.size)
  have Z8 : w0.heap.size ≤ w8.heap.size := B8.size
  have Y8 : w7.heap.size ≤ w8.heap.size := b.size
  have sP0_8 := World.block_lt_of_cell? _ _ qP0_0
  have sP1_8 := World.block_lt_of_cell? _ _ qP1_0
  clear b
  go_wp2_with fail
  refine (markMicropolygonS_c x6_a x6_c (dsD (⟨cW, cH, cZ, cN, cD, cL, cF⟩ : CamD) (⟨t0, t1, t2, t3, t4, t5, t6, t7, t8, t9, t10, t11⟩ : PatD) 0 0 1 x2 x3 x4) (dsD (⟨cW, cH, cZ, cN, cD, cL, cF⟩ : CamD) (⟨t0, t1, t2, t3, t4, t5, t6, t7, t8, t9, t10, t11⟩ : PatD) 0 0 1 x2 x3 x4).length 1 (w6.heap.size) w7.heap.size _ x6_o (by omega) (by omega)).mono ?_
  rintro e w9 ⟨rfl, x6_o2, g⟩
  replace qP0_0 := cell_chg g (by first | exact .inl (by omega) | exact .inr (by omega)) qP0_0
  replace qP0_1 := cell_chg g (by first | exact .inl (by omega) | exact .inr (by omega)) qP0_1
  replace qP0_2 := cell_chg g (by first | exact .inl (by omega) | exact .inr (by omega)) qP0_2
  replace qP0_3 := cell_chg g (by first | exact .inl (by omega) | exact .inr (by omega)) qP0_3
  replace qP0_4 := cell_chg g (by first | exact .inl (by omega) | exact .inr (by omega)) qP0_4
  replace qP0_5 := cell_chg g (by first | exact .inl (by omega) | exact .inr (by omega)) qP0_5
  replace qP0_6 := cell_chg g (by first | exact .inl (by omega) | exact .inr (by omega)) qP0_6
  replace qP1_0 := cell_chg g (by first | exact .inl (by omega) | exact .inr (by omega)) qP1_0
  replace qP1_1 := cell_chg g (by first | exact .inl (by omega) | exact .inr (by omega)) qP1_1
  replace qP1_2 := cell_chg g (by first | exact .inl (by omega) | exact .inr (by omega)) qP1_2
  replace qP1_3 := cell_chg g (by first | exact .inl (by omega) | exact .inr (by omega)) qP1_3
  replace qP1_4 := cell_chg g (by first | exact .inl (by omega) | exact .inr (by omega)) qP1_4
  replace qP1_5 := cell_chg g (by first | exact .inl (by omega) | exact .inr (by omega)) qP1_5
  replace qP1_6 := cell_chg g (by first | exact .inl (by omega) | exact .inr (by omega)) qP1_6
  replace qP1_7 := cell_chg g (by first | exact .inl (by omega) | exact .inr (by omega)) qP1_7
  replace qP1_8 := cell_chg g (by first | exact .inl (by omega) | exact .inr (by omega)) qP1_8
  replace qP1_9 := cell_chg g (by first | exact .inl (by omega) | exact .inr (by omega)) qP1_9
  replace qP1_10 := cell_chg g (by first | exact .inl (by omega) | exact .inr (by omega)) qP1_10
  replace qP1_11 := cell_chg g (by first | exact .inl (by omega) | exact .inr (by omega)) qP1_11
  replace x3_o := x3_o.chg g (by omega)
  have B9 := Below.chg B8 g (by omega) B8.size
  have Z9 : w0.heap.size ≤ w9.heap.size := B9.size
  have Y9 : w8.heap.size ≤ w9.heap.size := g.size
  have sP0_9 := World.block_lt_of_cell? _ _ qP0_0
  have sP1_9 := World.block_lt_of_cell? _ _ qP1_0
  clear g
  go_wp2_with fail
  refine (heldMicropolygonS_c x6_a x6_c (dsD (⟨cW, cH, cZ, cN, cD, cL, cF⟩ : CamD) (⟨t0, t1, t2, t3, t4, t5, t6, t7, t8, t9, t10, t11⟩ : PatD) 0 0 1 x2 x3 x4) (dsD (⟨cW, cH, cZ, cN, cD, cL, cF⟩ : CamD) (⟨t0, t1, t2, t3, t4, t5, t6, t7, t8, t9, t10, t11⟩ : PatD) 0 0 1 x2 x3 x4).length 1 _ x6_o2.sl (by omega) (by omega)).mono ?_
  rintro e w10 ⟨rfl, b⟩
  replace qP0_0 := cell_below b qP0_0
  replace qP0_1 := cell_below b qP0_1
  replace qP0_2 := cell_below b qP0_2
  replace qP0_3 := cell_below b qP0_3
  replace qP0_4 := cell_below b qP0_4
  replace qP0_5 := cell_below b qP0_5
  replace qP0_6 := cell_below b qP0_6
  replace qP1_0 := cell_below b qP1_0
  replace qP1_1 := cell_below b qP1_1
  replace qP1_2 := cell_below b qP1_2
  replace qP1_3 := cell_below b qP1_3
  replace qP1_4 := cell_below b qP1_4
  replace qP1_5 := cell_below b qP1_5
  replace qP1_6 := cell_below b qP1_6
  replace qP1_7 := cell_below b qP1_7
  replace qP1_8 := cell_below b qP1_8
  replace qP1_9 := cell_below b qP1_9
  replace qP1_10 := cell_below b qP1_10
  replace qP1_11 := cell_below b qP1_11
  replace x3_o := x3_o.below b
  replace x6_o2 := x6_o2.below b
  have B10 := B9.trans (b.mono B9.size)
  have Z10 : w0.heap.size ≤ w10.heap.size := B10.size
  have Y10 : w9.heap.size ≤ w10.heap.size := b.size
  have sP0_10 := World.block_lt_of_cell? _ _ qP0_0
  have sP1_10 := World.block_lt_of_cell? _ _ qP1_0
  clear b
  have yP0 := World.block_lt_of_cell? _ _ qP0_0
  have yP1 := World.block_lt_of_cell? _ _ qP1_0
  go_wp2
  go_region_held3 (fun w' => (w'.cell? ⟨w0.heap.size, 0, none⟩ = some (.int .i64 cW) ∧ w'.cell? ⟨w0.heap.size, 1, none⟩ = some (.int .i64 cH) ∧ w'.cell? ⟨w0.heap.size, 2, none⟩ = some (.int .i64 cZ) ∧ w'.cell? ⟨w0.heap.size, 3, none⟩ = some (.int .i64 cN) ∧ w'.cell? ⟨w0.heap.size, 4, none⟩ = some (.bool cD) ∧ w'.cell? ⟨w0.heap.size, 5, none⟩ = some (.int .i64 cL) ∧ w'.cell? ⟨w0.heap.size, 6, none⟩ = some (.int .i64 cF)) ∧ (w'.cell? ⟨w0.heap.size + 1, 0, none⟩ = some (.int .i64 t0) ∧ w'.cell? ⟨w0.heap.size + 1, 1, none⟩ = some (.int .i64 t1) ∧ w'.cell? ⟨w0.heap.size + 1, 2, none⟩ = some (.int .i64 t2) ∧ w'.cell? ⟨w0.heap.size + 1, 3, none⟩ = some (.int .i64 t3) ∧ w'.cell? ⟨w0.heap.size + 1, 4, none⟩ = some (.int .i64 t4) ∧ w'.cell? ⟨w0.heap.size + 1, 5, none⟩ = some (.int .i64 t5) ∧ w'.cell? ⟨w0.heap.size + 1, 6, none⟩ = some (.int .i64 t6) ∧ w'.cell? ⟨w0.heap.size + 1, 7, none⟩ = some (.int .i64 t7) ∧ w'.cell? ⟨w0.heap.size + 1, 8, none⟩ = some (.int .i64 t8) ∧ w'.cell? ⟨w0.heap.size + 1, 9, none⟩ = some (.int .i64 t9) ∧ w'.cell? ⟨w0.heap.size + 1, 10, none⟩ = some (.int .i64 t10) ∧ w'.cell? ⟨w0.heap.size + 1, 11, none⟩ = some (.int .i64 t11))) (go_keep) (first | (go_at_call 23; refine (toCamera_c cW cH cZ cN cD cL cF _).mono ?_; rintro e w11 ⟨rfl, b⟩; have bb11 : Below w10.heap.size w10 w11 := (by first | exact b | exact (Below.drew (Below.refl _ _)).trans (b.mono (by simp))); clear b; have B11 := B10.trans (bb11.mono B10.size); have Y11 := bb11.size; have Z11 : w0.heap.size ≤ w11.heap.size := B11.size; have qP0_0_11 := cell_below bb11 qP0_0; have qP0_1_11 := cell_below bb11 qP0_1; have qP0_2_11 := cell_below bb11 qP0_2; have qP0_3_11 := cell_below bb11 qP0_3; have qP0_4_11 := cell_below bb11 qP0_4; have qP0_5_11 := cell_below bb11 qP0_5; have qP0_6_11 := cell_below bb11 qP0_6; have qP1_0_11 := cell_below bb11 qP1_0; have qP1_1_11 := cell_below bb11 qP1_1; have qP1_2_11 := cell_below bb11 qP1_2; have qP1_3_11 := cell_below bb11 qP1_3; have qP1_4_11 := cell_below bb11 qP1_4; have qP1_5_11 := cell_below bb11 qP1_5; have qP1_6_11 := cell_below bb11 qP1_6; have qP1_7_11 := cell_below bb11 qP1_7; have qP1_8_11 := cell_below bb11 qP1_8; have qP1_9_11 := cell_below bb11 qP1_9; have qP1_10_11 := cell_below bb11 qP1_10; have qP1_11_11 := cell_below bb11 qP1_11) | (go_at_call 24; refine (toPatch_c t0 t1 t2 t3 t4 t5 t6 t7 t8 t9 t10 t11 _).mono ?_; rintro e w12 ⟨rfl, b⟩; have bb12 : Below w11.heap.size w11 w12 := (by first | exact b | exact (Below.drew (Below.refl _ _)).trans (b.mono (by simp))); clear b; have B12 := B11.trans (bb12.mono B11.size); have Y12 := bb12.size; have Z12 : w0.heap.size ≤ w12.heap.size := B12.size; have qP0_0_12 := cell_below bb12 qP0_0_11; have qP0_1_12 := cell_below bb12 qP0_1_11; have qP0_2_12 := cell_below bb12 qP0_2_11; have qP0_3_12 := cell_below bb12 qP0_3_11; have qP0_4_12 := cell_below bb12 qP0_4_11; have qP0_5_12 := cell_below bb12 qP0_5_11; have qP0_6_12 := cell_below bb12 qP0_6_11; have qP1_0_12 := cell_below bb12 qP1_0_11; have qP1_1_12 := cell_below bb12 qP1_1_11; have qP1_2_12 := cell_below bb12 qP1_2_11; have qP1_3_12 := cell_below bb12 qP1_3_11; have qP1_4_12 := cell_below bb12 qP1_4_11; have qP1_5_12 := cell_below bb12 qP1_5_11; have qP1_6_12 := cell_below bb12 qP1_6_11; have qP1_7_12 := cell_below bb12 qP1_7_11; have qP1_8_12 := cell_below bb12 qP1_8_11; have qP1_9_12 := cell_below bb12 qP1_9_11; have qP1_10_12 := cell_below bb12 qP1_10_11; have qP1_11_12 := cell_below bb12 qP1_11_11) | (go_at_call 18; refine (impl_DicePatch_c (⟨cW, cH, cZ, cN, cD, cL, cF⟩ : CamD) (⟨t0, t1, t2, t3, t4, t5, t6, t7, t8, t9, t10, t11⟩ : PatD) x2 x3 x4 _).mono ?_; rintro e w13 ⟨x9_a, x9_c, rfl, x9_o, b⟩; have bb13 : Below w12.heap.size w12 w13 := (by first | exact b | exact (Below.drew (Below.refl _ _)).trans (b.mono (by simp))); clear b; have B13 := B12.trans (bb13.mono B12.size); have Y13 := bb13.size; have Z13 : w0.heap.size ≤ w13.heap.size := B13.size; have qP0_0_13 := cell_below bb13 qP0_0_12; have qP0_1_13 := cell_below bb13 qP0_1_12; have qP0_2_13 := cell_below bb13 qP0_2_12; have qP0_3_13 := cell_below bb13 qP0_3_12; have qP0_4_13 := cell_below bb13 qP0_4_12; have qP0_5_13 := cell_below bb13 qP0_5_12; have qP0_6_13 := cell_below bb13 qP0_6_12; have qP1_0_13 := cell_below bb13 qP1_0_12; have qP1_1_13 := cell_below bb13 qP1_1_12; have qP1_2_13 := cell_below bb13 qP1_2_12; have qP1_3_13 := cell_below bb13 qP1_3_12; have qP1_4_13 := cell_below bb13 qP1_4_12; have qP1_5_13 := cell_below bb13 qP1_5_12; have qP1_6_13 := cell_below bb13 qP1_6_12; have qP1_7_13 := cell_below bb13 qP1_7_12; have qP1_8_13 := cell_below bb13 qP1_8_12; have qP1_9_13 := cell_below bb13 qP1_9_12; have qP1_10_13 := cell_below bb13 qP1_10_12; have qP1_11_13 := cell_below bb13 qP1_11_12))
  have bb : Below w10.heap.size w10 w13 := ((bb11.trans (bb12.mono (by omega))).trans (bb13.mono (by omega)))
  replace qP0_0 := cell_below bb qP0_0
  replace qP0_1 := cell_below bb qP0_1
  replace qP0_2 := cell_below bb qP0_2
  replace qP0_3 := cell_below bb qP0_3
  replace qP0_4 := cell_below bb qP0_4
  replace qP0_5 := cell_below bb qP0_5
  replace qP0_6 := cell_below bb qP0_6
  clear qP0_0_11 qP0_0_12 qP0_0_13 qP0_1_11 qP0_1_12 qP0_1_13 qP0_2_11 qP0_2_12 qP0_2_13 qP0_3_11 qP0_3_12 qP0_3_13 qP0_4_11 qP0_4_12 qP0_4_13 qP0_5_11 qP0_5_12 qP0_5_13 qP0_6_11 qP0_6_12 qP0_6_13
  replace qP1_0 := cell_below bb qP1_0
  replace qP1_1 := cell_below bb qP1_1
  replace qP1_2 := cell_below bb qP1_2
  replace qP1_3 := cell_below bb qP1_3
  replace qP1_4 := cell_below bb qP1_4
  replace qP1_5 := cell_below bb qP1_5
  replace qP1_6 := cell_below bb qP1_6
  replace qP1_7 := cell_below bb qP1_7
  replace qP1_8 := cell_below bb qP1_8
  replace qP1_9 := cell_below bb qP1_9
  replace qP1_10 := cell_below bb qP1_10
  replace qP1_11 := cell_below bb qP1_11
  clear qP1_0_11 qP1_0_12 qP1_0_13 qP1_1_11 qP1_1_12 qP1_1_13 qP1_2_11 qP1_2_12 qP1_2_13 qP1_3_11 qP1_3_12 qP1_3_13 qP1_4_11 qP1_4_12 qP1_4_13 qP1_5_11 qP1_5_12 qP1_5_13 qP1_6_11 qP1_6_12 qP1_6_13 qP1_7_11 qP1_7_12 qP1_7_13 qP1_8_11 qP1_8_12 qP1_8_13 qP1_9_11 qP1_9_12 qP1_9_13 qP1_10_11 qP1_10_12 qP1_10_13 qP1_11_11 qP1_11_12 qP1_11_13
  clear bb
  replace x3_o := x3_o.below ((bb11.trans (bb12.mono (by omega))).trans (bb13.mono (by omega)))
  replace x6_o2 := x6_o2.below ((bb11.trans (bb12.mono (by omega))).trans (bb13.mono (by omega)))
  clear bb11 bb12 bb13
  go_wp2_with fail
  refine (eqMicropolygonS_c x9_a x3_a x9_c x3_c (dsD (⟨cW, cH, cZ, cN, cD, cL, cF⟩ : CamD) (⟨t0, t1, t2, t3, t4, t5, t6, t7, t8, t9, t10, t11⟩ : PatD) 0 0 1 x2 x3 x4) (dsD (⟨cW, cH, cZ, cN, cD, cL, cF⟩ : CamD) (⟨t0, t1, t2, t3, t4, t5, t6, t7, t8, t9, t10, t11⟩ : PatD) 0 0 1 x2 x3 x4).length _ (x9_o.sl.below (by repeat (first | exact Below.refl _ _ | refine Below.drew ?_ | refine Below.alloc ?_ (by first | exact Nat.le_refl _ | (simp; done) | (simp; omega) | omega) _ | refine Below.more ?_ (by first | exact Nat.le_refl _ | (simp; done) | (simp; omega) | omega) _ _ | refine Below.setCell ?_ (by first | exact Nat.le_refl _ | (simp; done) | (simp; omega) | omega) _ | assumption))) (x3_o.sl.below (by repeat (first | exact Below.refl _ _ | refine Below.drew ?_ | refine Below.alloc ?_ (by first | exact Nat.le_refl _ | (simp; done) | (simp; omega) | omega) _ | refine Below.more ?_ (by first | exact Nat.le_refl _ | (simp; done) | (simp; omega) | omega) _ _ | refine Below.setCell ?_ (by first | exact Nat.le_refl _ | (simp; done) | (simp; omega) | omega) _ | assumption))) (by omega)).mono ?_
  rintro e w14 ⟨rfl, b⟩
  replace qP0_0 := cell_below b qP0_0
  replace qP0_1 := cell_below b qP0_1
  replace qP0_2 := cell_below b qP0_2
  replace qP0_3 := cell_below b qP0_3
  replace qP0_4 := cell_below b qP0_4
  replace qP0_5 := cell_below b qP0_5
  replace qP0_6 := cell_below b qP0_6
  replace qP1_0 := cell_below b qP1_0
  replace qP1_1 := cell_below b qP1_1
  replace qP1_2 := cell_below b qP1_2
  replace qP1_3 := cell_below b qP1_3
  replace qP1_4 := cell_below b qP1_4
  replace qP1_5 := cell_below b qP1_5
  replace qP1_6 := cell_below b qP1_6
  replace qP1_7 := cell_below b qP1_7
  replace qP1_8 := cell_below b qP1_8
  replace qP1_9 := cell_below b qP1_9
  replace qP1_10 := cell_below b qP1_10
  replace qP1_11 := cell_below b qP1_11
  replace x3_o := x3_o.below b
  replace x6_o2 := x6_o2.below b
  replace x9_o := x9_o.below b
  have B14 := B13.trans (b.mono B13.size)
  have Z14 : w0.heap.size ≤ w14.heap.size := B14.size
  have Y14 : w13.heap.size ≤ w14.heap.size := b.size
  have sP0_14 := World.block_lt_of_cell? _ _ qP0_0
  have sP1_14 := World.block_lt_of_cell? _ _ qP1_0
  clear b
  go_wp2_with fail
  refine (heldMicropolygonS_c x6_a x6_c (dsD (⟨cW, cH, cZ, cN, cD, cL, cF⟩ : CamD) (⟨t0, t1, t2, t3, t4, t5, t6, t7, t8, t9, t10, t11⟩ : PatD) 0 0 1 x2 x3 x4) (dsD (⟨cW, cH, cZ, cN, cD, cL, cF⟩ : CamD) (⟨t0, t1, t2, t3, t4, t5, t6, t7, t8, t9, t10, t11⟩ : PatD) 0 0 1 x2 x3 x4).length 1 _ x6_o2.sl (by omega) (by omega)).mono ?_
  rintro e w15 ⟨rfl, b⟩
  replace qP0_0 := cell_below b qP0_0
  replace qP0_1 := cell_below b qP0_1
  replace qP0_2 := cell_below b qP0_2
  replace qP0_3 := cell_below b qP0_3
  replace qP0_4 := cell_below b qP0_4
  replace qP0_5 := cell_below b qP0_5
  replace qP0_6 := cell_below b qP0_6
  replace qP1_0 := cell_below b qP1_0
  replace qP1_1 := cell_below b qP1_1
  replace qP1_2 := cell_below b qP1_2
  replace qP1_3 := cell_below b qP1_3
  replace qP1_4 := cell_below b qP1_4
  replace qP1_5 := cell_below b qP1_5
  replace qP1_6 := cell_below b qP1_6
  replace qP1_7 := cell_below b qP1_7
  replace qP1_8 := cell_below b qP1_8
  replace qP1_9 := cell_below b qP1_9
  replace qP1_10 := cell_below b qP1_10
  replace qP1_11 := cell_below b qP1_11
  replace x3_o := x3_o.below b
  replace x6_o2 := x6_o2.below b
  replace x9_o := x9_o.below b
  have B15 := B14.trans (b.mono B14.size)
  have Z15 : w0.heap.size ≤ w15.heap.size := B15.size
  have Y15 : w14.heap.size ≤ w15.heap.size := b.size
  have sP0_15 := World.block_lt_of_cell? _ _ qP0_0
  have sP1_15 := World.block_lt_of_cell? _ _ qP1_0
  clear b
  go_wp2
  go_ret
  exact ⟨rfl, B15⟩
end Go.Proofs.Ytkdkdejgajcneaa
