/- The walk of the law FnExactDiceRate. -/
import Derived.Test.YtkdkdejgajcneaaRateS
import Derived.Test.YtkdkdejgajcneaaLawInterpolate
import Derived.Test.YtkdkdejgajcneaaOpen
import Derived.Test.YtkdkdejgajcneaaOpen
import Derived.Deep.RegionHeld3
namespace Go.Proofs.Ytkdkdejgajcneaa
open Go.RowKit Go.ChangeShapes
set_option maxRecDepth 100000 in
set_option maxHeartbeats 8000000 in
theorem law_DiceRate {H : Type} {enc : TypeId × Value → H} {W : World} {base : Nat} {v0 v1 v2 : Value} {d0 d1 d2 : DataW H} {p0 p1 p2 : List MemPlace}
    (k0 : Value.okWide Try.prog W .any base 48 v0) (h0 : DataW.Trod enc Try.prog W 0 (fun _ => true) true 48 v0 d0 p0)
    (k1 : Value.okWide Try.prog W .any base 52 v1) (h1 : DataW.Trod enc Try.prog W 0 (fun _ => true) true 52 v1 d1 p1)
    (k2 : Value.okWide Try.prog W .any base 3 v2) (h2 : DataW.Trod enc Try.prog W 0 (fun _ => true) true 3 v2 d2 p2)
    : Calls Try.prog 4 #[v0, v1, v2] W fun e W' => e = .returned (.bool true) ∧ Below W.heap.size W W' := by
  obtain ⟨cW, cH, cZ, cN, cD, cL, cF, rfl, _, _, _, _, _, _⟩ := open_camera k0
  obtain ⟨t0, t1, t2, t3, t4, t5, t6, t7, t8, t9, t10, t11, rfl, _⟩ := open_patch k1
  obtain ⟨x2, rfl, _, _, wf2⟩ := open_int Try.underlying3 k2 h2
  clear k0 h0 k1 h1 k2 h2
  obtain ⟨w0, rfl⟩ : ∃ w0, w0 = W := ⟨W, rfl⟩
  have B0 := Below.refl w0.heap.size w0
  have Z0 : w0.heap.size ≤ w0.heap.size := Nat.le_refl _
  go_enter Try.func4, Try.ntmps4
  go_wp2
  obtain ⟨w1, hw1⟩ : ∃ w1, w1 = ((w0.alloc (.cells #[.int .i64 cW, .int .i64 cH, .int .i64 cZ, .int .i64 cN, .bool cD, .int .i64 cL, .int .i64 cF] 48)).alloc (.cells #[.int .i64 t0, .int .i64 t1, .int .i64 t2, .int .i64 t3, .int .i64 t4, .int .i64 t5, .int .i64 t6, .int .i64 t7, .int .i64 t8, .int .i64 t9, .int .i64 t10, .int .i64 t11] 52)) := ⟨_, rfl⟩
  rw [← hw1]
  have bb : Below w0.heap.size w0 w1 := by rw [hw1]; exact (Below.alloc (Below.alloc (Below.refl w0.heap.size w0) (Nat.le_refl _) _) (by first | (simp; done) | (simp; omega)) _)
  have qP0_0 : w1.cell? ⟨w0.heap.size, 0, none⟩ = some (.int .i64 cW) := by rw [hw1]; simp [go_sem]
  have qP0_1 : w1.cell? ⟨w0.heap.size, 1, none⟩ = some (.int .i64 cH) := by rw [hw1]; simp [go_sem]
  have qP0_2 : w1.cell? ⟨w0.heap.size, 2, none⟩ = some (.int .i64 cZ) := by rw [hw1]; simp [go_sem]
  have qP0_3 : w1.cell? ⟨w0.heap.size, 3, none⟩ = some (.int .i64 cN) := by rw [hw1]; simp [go_sem]
  have qP0_4 : w1.cell? ⟨w0.heap.size, 4, none⟩ = some (.bool cD) := by rw [hw1]; simp [go_sem]
  have qP0_5 : w1.cell? ⟨w0.heap.size, 5, none⟩ = some (.int .i64 cL) := by rw [hw1]; simp [go_sem]
  have qP0_6 : w1.cell? ⟨w0.heap.size, 6, none⟩ = some (.int .i64 cF) := by rw [hw1]; simp [go_sem]
  have qP1_0 : w1.cell? ⟨w0.heap.size + 1, 0, none⟩ = some (.int .i64 t0) := by rw [hw1]; simp [go_sem]
  have qP1_1 : w1.cell? ⟨w0.heap.size + 1, 1, none⟩ = some (.int .i64 t1) := by rw [hw1]; simp [go_sem]
  have qP1_2 : w1.cell? ⟨w0.heap.size + 1, 2, none⟩ = some (.int .i64 t2) := by rw [hw1]; simp [go_sem]
  have qP1_3 : w1.cell? ⟨w0.heap.size + 1, 3, none⟩ = some (.int .i64 t3) := by rw [hw1]; simp [go_sem]
  have qP1_4 : w1.cell? ⟨w0.heap.size + 1, 4, none⟩ = some (.int .i64 t4) := by rw [hw1]; simp [go_sem]
  have qP1_5 : w1.cell? ⟨w0.heap.size + 1, 5, none⟩ = some (.int .i64 t5) := by rw [hw1]; simp [go_sem]
  have qP1_6 : w1.cell? ⟨w0.heap.size + 1, 6, none⟩ = some (.int .i64 t6) := by rw [hw1]; simp [go_sem]
  have qP1_7 : w1.cell? ⟨w0.heap.size + 1, 7, none⟩ = some (.int .i64 t7) := by rw [hw1]; simp [go_sem]
  have qP1_8 : w1.cell? ⟨w0.heap.size + 1, 8, none⟩ = some (.int .i64 t8) := by rw [hw1]; simp [go_sem]
  have qP1_9 : w1.cell? ⟨w0.heap.size + 1, 9, none⟩ = some (.int .i64 t9) := by rw [hw1]; simp [go_sem]
  have qP1_10 : w1.cell? ⟨w0.heap.size + 1, 10, none⟩ = some (.int .i64 t10) := by rw [hw1]; simp [go_sem]
  have qP1_11 : w1.cell? ⟨w0.heap.size + 1, 11, none⟩ = some (.int .i64 t11) := by rw [hw1]; simp [go_sem]
  clear hw1
  have B1 := B0.trans (bb.mono B0.size)
  have Z1 : w0.heap.size ≤ w1.heap.size := B1.size
  have Y1 : w0.heap.size ≤ w1.heap.size := bb.size
  have sP0_1 := World.block_lt_of_cell? _ _ qP0_0
  have sP1_1 := World.block_lt_of_cell? _ _ qP1_0
  clear bb
  have yP0 := World.block_lt_of_cell? _ _ qP0_0
  have yP1 := World.block_lt_of_cell? _ _ qP1_0
  go_wp2
  go_region_held3 (fun w' => (w'.cell? ⟨w0.heap.size, 0, none⟩ = some (.int .i64 cW) ∧ w'.cell? ⟨w0.heap.size, 1, none⟩ = some (.int .i64 cH) ∧ w'.cell? ⟨w0.heap.size, 2, none⟩ = some (.int .i64 cZ) ∧ w'.cell? ⟨w0.heap.size, 3, none⟩ = some (.int .i64 cN) ∧ w'.cell? ⟨w0.heap.size, 4, none⟩ = some (.bool cD) ∧ w'.cell? ⟨w0.heap.size, 5, none⟩ = some (.int .i64 cL) ∧ w'.cell? ⟨w0.heap.size, 6, none⟩ = some (.int .i64 cF)) ∧ (w'.cell? ⟨w0.heap.size + 1, 0, none⟩ = some (.int .i64 t0) ∧ w'.cell? ⟨w0.heap.size + 1, 1, none⟩ = some (.int .i64 t1) ∧ w'.cell? ⟨w0.heap.size + 1, 2, none⟩ = some (.int .i64 t2) ∧ w'.cell? ⟨w0.heap.size + 1, 3, none⟩ = some (.int .i64 t3) ∧ w'.cell? ⟨w0.heap.size + 1, 4, none⟩ = some (.int .i64 t4) ∧ w'.cell? ⟨w0.heap.size + 1, 5, none⟩ = some (.int .i64 t5) ∧ w'.cell? ⟨w0.heap.size + 1, 6, none⟩ = some (.int .i64 t6) ∧ w'.cell? ⟨w0.heap.size + 1, 7, none⟩ = some (.int .i64 t7) ∧ w'.cell? ⟨w0.heap.size + 1, 8, none⟩ = some (.int .i64 t8) ∧ w'.cell? ⟨w0.heap.size + 1, 9, none⟩ = some (.int .i64 t9) ∧ w'.cell? ⟨w0.heap.size + 1, 10, none⟩ = some (.int .i64 t10) ∧ w'.cell? ⟨w0.heap.size + 1, 11, none⟩ = some (.int .i64 t11))) (go_keep) (first | (go_at_call 23; refine (toCamera_c cW cH cZ cN cD cL cF _).mono ?_; rintro e w2 ⟨rfl, b⟩; have bb2 : Below w1.heap.size w1 w2 := (by first | exact b | exact (Below.drew (Below.refl _ _)).trans (b.mono (by simp))); clear b; have B2 := B1.trans (bb2.mono B1.size); have Y2 := bb2.size; have Z2 : w0.heap.size ≤ w2.heap.size := B2.size; have qP0_0_2 := cell_below bb2 qP0_0; have qP0_1_2 := cell_below bb2 qP0_1; have qP0_2_2 := cell_below bb2 qP0_2; have qP0_3_2 := cell_below bb2 qP0_3; have qP0_4_2 := cell_below bb2 qP0_4; have qP0_5_2 := cell_below bb2 qP0_5; have qP0_6_2 := cell_below bb2 qP0_6; have qP1_0_2 := cell_below bb2 qP1_0; have qP1_1_2 := cell_below bb2 qP1_1; have qP1_2_2 := cell_below bb2 qP1_2; have qP1_3_2 := cell_below bb2 qP1_3; have qP1_4_2 := cell_below bb2 qP1_4; have qP1_5_2 := cell_below bb2 qP1_5; have qP1_6_2 := cell_below bb2 qP1_6; have qP1_7_2 := cell_below bb2 qP1_7; have qP1_8_2 := cell_below bb2 qP1_8; have qP1_9_2 := cell_below bb2 qP1_9; have qP1_10_2 := cell_below bb2 qP1_10; have qP1_11_2 := cell_below bb2 qP1_11) | (go_at_call 24; refine (toPatch_c t0 t1 t2 t3 t4 t5 t6 t7 t8 t9 t10 t11 _).mono ?_; rintro e w3 ⟨rfl, b⟩; have bb3 : Below w2.heap.size w2 w3 := (by first | exact b | exact (Below.drew (Below.refl _ _)).trans (b.mono (by simp))); clear b; have B3 := B2.trans (bb3.mono B2.size); have Y3 := bb3.size; have Z3 : w0.heap.size ≤ w3.heap.size := B3.size; have qP0_0_3 := cell_below bb3 qP0_0_2; have qP0_1_3 := cell_below bb3 qP0_1_2; have qP0_2_3 := cell_below bb3 qP0_2_2; have qP0_3_3 := cell_below bb3 qP0_3_2; have qP0_4_3 := cell_below bb3 qP0_4_2; have qP0_5_3 := cell_below bb3 qP0_5_2; have qP0_6_3 := cell_below bb3 qP0_6_2; have qP1_0_3 := cell_below bb3 qP1_0_2; have qP1_1_3 := cell_below bb3 qP1_1_2; have qP1_2_3 := cell_below bb3 qP1_2_2; have qP1_3_3 := cell_below bb3 qP1_3_2; have qP1_4_3 := cell_below bb3 qP1_4_2; have qP1_5_3 := cell_below bb3 qP1_5_2; have qP1_6_3 := cell_below bb3 qP1_6_2; have qP1_7_3 := cell_below bb3 qP1_7_2; have qP1_8_3 := cell_below bb3 qP1_8_2; have qP1_9_3 := cell_below bb3 qP1_9_2; have qP1_10_3 := cell_below bb3 qP1_10_2; have qP1_11_3 := cell_below bb3 qP1_11_2) | (go_at_call 22; refine (spec_DiceRate_c (⟨cW, cH, cZ, cN, cD, cL, cF⟩ : CamD) (⟨t0, t1, t2, t3, t4, t5, t6, t7, t8, t9, t10, t11⟩ : PatD) x2 _).mono ?_; rintro e w4 ⟨rfl, b⟩; have bb4 : Below w3.heap.size w3 w4 := (by first | exact b | exact (Below.drew (Below.refl _ _)).trans (b.mono (by simp))); clear b; have B4 := B3.trans (bb4.mono B3.size); have Y4 := bb4.size; have Z4 : w0.heap.size ≤ w4.heap.size := B4.size; have qP0_0_4 := cell_below bb4 qP0_0_3; have qP0_1_4 := cell_below bb4 qP0_1_3; have qP0_2_4 := cell_below bb4 qP0_2_3; have qP0_3_4 := cell_below bb4 qP0_3_3; have qP0_4_4 := cell_below bb4 qP0_4_3; have qP0_5_4 := cell_below bb4 qP0_5_3; have qP0_6_4 := cell_below bb4 qP0_6_3; have qP1_0_4 := cell_below bb4 qP1_0_3; have qP1_1_4 := cell_below bb4 qP1_1_3; have qP1_2_4 := cell_below bb4 qP1_2_3; have qP1_3_4 := cell_below bb4 qP1_3_3; have qP1_4_4 := cell_below bb4 qP1_4_3; have qP1_5_4 := cell_below bb4 qP1_5_3; have qP1_6_4 := cell_below bb4 qP1_6_3; have qP1_7_4 := cell_below bb4 qP1_7_3; have qP1_8_4 := cell_below bb4 qP1_8_3; have qP1_9_4 := cell_below bb4 qP1_9_3; have qP1_10_4 := cell_below bb4 qP1_10_3; have qP1_11_4 := cell_below bb4 qP1_11_3))
  have bb : Below w1.heap.size w1 w4 := ((bb2.trans (bb3.mono (by omega))).trans (bb4.mono (by omega)))
  replace qP0_0 := cell_below bb qP0_0
  replace qP0_1 := cell_below bb qP0_1
  replace qP0_2 := cell_below bb qP0_2
  replace qP0_3 := cell_below bb qP0_3
  replace qP0_4 := cell_below bb qP0_4
  replace qP0_5 := cell_below bb qP0_5
  replace qP0_6 := cell_below bb qP0_6
  clear qP0_0_2 qP0_0_3 qP0_0_4 qP0_1_2 qP0_1_3 qP0_1_4 qP0_2_2 qP0_2_3 qP0_2_4 qP0_3_2 qP0_3_3 qP0_3_4 qP0_4_2 qP0_4_3 qP0_4_4 qP0_5_2 qP0_5_3 qP0_5_4 qP0_6_2 qP0_6_3 qP0_6_4
  replace qP1_0 := cell_below bb qP1_0
  replace qP1_1 := cell_below bb qP1_1
  replace qP1_2 := cell_below bb qP1_2
  replace qP1_3 := cell_below bb qP1_3
  replace qP1_4 := cell_below bb qP1_4
  replace qP1_5 := cell_below bb qP1_5
  replace qP1_6 := cell_below bb qP1_6
  replace qP1_7 := cell_below bb qP1_7
  replace qP1_8 := cell_below bb qP1_8
  replace qP1_9 := cell_below bb qP1_9
  replace qP1_10 := cell_below bb qP1_10
  replace qP1_11 := cell_below bb qP1_11
  clear qP1_0_2 qP1_0_3 qP1_0_4 qP1_1_2 qP1_1_3 qP1_1_4 qP1_2_2 qP1_2_3 qP1_2_4 qP1_3_2 qP1_3_3 qP1_3_4 qP1_4_2 qP1_4_3 qP1_4_4 qP1_5_2 qP1_5_3 qP1_5_4 qP1_6_2 qP1_6_3 qP1_6_4 qP1_7_2 qP1_7_3 qP1_7_4 qP1_8_2 qP1_8_3 qP1_8_4 qP1_9_2 qP1_9_3 qP1_9_4 qP1_10_2 qP1_10_3 qP1_10_4 qP1_11_2 qP1_11_3 qP1_11_4
  clear bb
  clear bb2 bb3 bb4
  have yP0 := World.block_lt_of_cell? _ _ qP0_0
  have yP1 := World.block_lt_of_cell? _ _ qP1_0
  go_wp2
  go_region_held3 (fun w' => (w'.cell? ⟨w0.heap.size, 0, none⟩ = some (.int .i64 cW) ∧ w'.cell? ⟨w0.heap.size, 1, none⟩ = some (.int .i64 cH) ∧ w'.cell? ⟨w0.heap.size, 2, none⟩ = some (.int .i64 cZ) ∧ w'.cell? ⟨w0.heap.size, 3, none⟩ = some (.int .i64 cN) ∧ w'.cell? ⟨w0.heap.size, 4, none⟩ = some (.bool cD) ∧ w'.cell? ⟨w0.heap.size, 5, none⟩ = some (.int .i64 cL) ∧ w'.cell? ⟨w0.heap.size, 6, none⟩ = some (.int .i64 cF)) ∧ (w'.cell? ⟨w0.heap.size + 1, 0, none⟩ = some (.int .i64 t0) ∧ w'.cell? ⟨w0.heap.size + 1, 1, none⟩ = some (.int .i64 t1) ∧ w'.cell? ⟨w0.heap.size + 1, 2, none⟩ = some (.int .i64 t2) ∧ w'.cell? ⟨w0.heap.size + 1, 3, none⟩ = some (.int .i64 t3) ∧ w'.cell? ⟨w0.heap.size + 1, 4, none⟩ = some (.int .i64 t4) ∧ w'.cell? ⟨w0.heap.size + 1, 5, none⟩ = some (.int .i64 t5) ∧ w'.cell? ⟨w0.heap.size + 1, 6, none⟩ = some (.int .i64 t6) ∧ w'.cell? ⟨w0.heap.size + 1, 7, none⟩ = some (.int .i64 t7) ∧ w'.cell? ⟨w0.heap.size + 1, 8, none⟩ = some (.int .i64 t8) ∧ w'.cell? ⟨w0.heap.size + 1, 9, none⟩ = some (.int .i64 t9) ∧ w'.cell? ⟨w0.heap.size + 1, 10, none⟩ = some (.int .i64 t10) ∧ w'.cell? ⟨w0.heap.size + 1, 11, none⟩ = some (.int .i64 t11))) (go_keep) (first | (go_at_call 23; refine (toCamera_c cW cH cZ cN cD cL cF _).mono ?_; rintro e w5 ⟨rfl, b⟩; have bb5 : Below w4.heap.size w4 w5 := (by first | exact b | exact (Below.drew (Below.refl _ _)).trans (b.mono (by simp))); clear b; have B5 := B4.trans (bb5.mono B4.size); have Y5 := bb5.size; have Z5 : w0.heap.size ≤ w5.heap.size := B5.size; have qP0_0_5 := cell_below bb5 qP0_0; have qP0_1_5 := cell_below bb5 qP0_1; have qP0_2_5 := cell_below bb5 qP0_2; have qP0_3_5 := cell_below bb5 qP0_3; have qP0_4_5 := cell_below bb5 qP0_4; have qP0_5_5 := cell_below bb5 qP0_5; have qP0_6_5 := cell_below bb5 qP0_6; have qP1_0_5 := cell_below bb5 qP1_0; have qP1_1_5 := cell_below bb5 qP1_1; have qP1_2_5 := cell_below bb5 qP1_2; have qP1_3_5 := cell_below bb5 qP1_3; have qP1_4_5 := cell_below bb5 qP1_4; have qP1_5_5 := cell_below bb5 qP1_5; have qP1_6_5 := cell_below bb5 qP1_6; have qP1_7_5 := cell_below bb5 qP1_7; have qP1_8_5 := cell_below bb5 qP1_8; have qP1_9_5 := cell_below bb5 qP1_9; have qP1_10_5 := cell_below bb5 qP1_10; have qP1_11_5 := cell_below bb5 qP1_11) | (go_at_call 24; refine (toPatch_c t0 t1 t2 t3 t4 t5 t6 t7 t8 t9 t10 t11 _).mono ?_; rintro e w6 ⟨rfl, b⟩; have bb6 : Below w5.heap.size w5 w6 := (by first | exact b | exact (Below.drew (Below.refl _ _)).trans (b.mono (by simp))); clear b; have B6 := B5.trans (bb6.mono B5.size); have Y6 := bb6.size; have Z6 : w0.heap.size ≤ w6.heap.size := B6.size; have qP0_0_6 := cell_below bb6 qP0_0_5; have qP0_1_6 := cell_below bb6 qP0_1_5; have qP0_2_6 := cell_below bb6 qP0_2_5; have qP0_3_6 := cell_below bb6 qP0_3_5; have qP0_4_6 := cell_below bb6 qP0_4_5; have qP0_5_6 := cell_below bb6 qP0_5_5; have qP0_6_6 := cell_below bb6 qP0_6_5; have qP1_0_6 := cell_below bb6 qP1_0_5; have qP1_1_6 := cell_below bb6 qP1_1_5; have qP1_2_6 := cell_below bb6 qP1_2_5; have qP1_3_6 := cell_below bb6 qP1_3_5; have qP1_4_6 := cell_below bb6 qP1_4_5; have qP1_5_6 := cell_below bb6 qP1_5_5; have qP1_6_6 := cell_below bb6 qP1_6_5; have qP1_7_6 := cell_below bb6 qP1_7_5; have qP1_8_6 := cell_below bb6 qP1_8_5; have qP1_9_6 := cell_below bb6 qP1_9_5; have qP1_10_6 := cell_below bb6 qP1_10_5; have qP1_11_6 := cell_below bb6 qP1_11_5) | (go_at_call 21; refine (impl_DiceRate_c (⟨cW, cH, cZ, cN, cD, cL, cF⟩ : CamD) (⟨t0, t1, t2, t3, t4, t5, t6, t7, t8, t9, t10, t11⟩ : PatD) x2 _).mono ?_; rintro e w7 ⟨rfl, b⟩; have bb7 : Below w6.heap.size w6 w7 := (by first | exact b | exact (Below.drew (Below.refl _ _)).trans (b.mono (by simp))); clear b; have B7 := B6.trans (bb7.mono B6.size); have Y7 := bb7.size; have Z7 : w0.heap.size ≤ w7.heap.size := B7.size; have qP0_0_7 := cell_below bb7 qP0_0_6; have qP0_1_7 := cell_below bb7 qP0_1_6; have qP0_2_7 := cell_below bb7 qP0_2_6; have qP0_3_7 := cell_below bb7 qP0_3_6; have qP0_4_7 := cell_below bb7 qP0_4_6; have qP0_5_7 := cell_below bb7 qP0_5_6; have qP0_6_7 := cell_below bb7 qP0_6_6; have qP1_0_7 := cell_below bb7 qP1_0_6; have qP1_1_7 := cell_below bb7 qP1_1_6; have qP1_2_7 := cell_below bb7 qP1_2_6; have qP1_3_7 := cell_below bb7 qP1_3_6; have qP1_4_7 := cell_below bb7 qP1_4_6; have qP1_5_7 := cell_below bb7 qP1_5_6; have qP1_6_7 := cell_below bb7 qP1_6_6; have qP1_7_7 := cell_below bb7 qP1_7_6; have qP1_8_7 := cell_below bb7 qP1_8_6; have qP1_9_7 := cell_below bb7 qP1_9_6; have qP1_10_7 := cell_below bb7 qP1_10_6; have qP1_11_7 := cell_below bb7 qP1_11_6))
  have bb : Below w4.heap.size w4 w7 := ((bb5.trans (bb6.mono (by omega))).trans (bb7.mono (by omega)))
  replace qP0_0 := cell_below bb qP0_0
  replace qP0_1 := cell_below bb qP0_1
  replace qP0_2 := cell_below bb qP0_2
  replace qP0_3 := cell_below bb qP0_3
  replace qP0_4 := cell_below bb qP0_4
  replace qP0_5 := cell_below bb qP0_5
  replace qP0_6 := cell_below bb qP0_6
  clear qP0_0_5 qP0_0_6 qP0_0_7 qP0_1_5 qP0_1_6 qP0_1_7 qP0_2_5 qP0_2_6 qP0_2_7 qP0_3_5 qP0_3_6 qP0_3_7 qP0_4_5 qP0_4_6 qP0_4_7 qP0_5_5 qP0_5_6 qP0_5_7 qP0_6_5 qP0_6_6 qP0_6_7
  replace qP1_0 := cell_below bb qP1_0
  replace qP1_1 := cell_below bb qP1_1
  replace qP1_2 := cell_below bb qP1_2
  replace qP1_3 := cell_below bb qP1_3
  replace qP1_4 := cell_below bb qP1_4
  replace qP1_5 := cell_below bb qP1_5
  replace qP1_6 := cell_below bb qP1_6
  replace qP1_7 := cell_below bb qP1_7
  replace qP1_8 := cell_below bb qP1_8
  replace qP1_9 := cell_below bb qP1_9
  replace qP1_10 := cell_below bb qP1_10
  replace qP1_11 := cell_below bb qP1_11
  clear qP1_0_5 qP1_0_6 qP1_0_7 qP1_1_5 qP1_1_6 qP1_1_7 qP1_2_5 qP1_2_6 qP1_2_7 qP1_3_5 qP1_3_6 qP1_3_7 qP1_4_5 qP1_4_6 qP1_4_7 qP1_5_5 qP1_5_6 qP1_5_7 qP1_6_5 qP1_6_6 qP1_6_7 qP1_7_5 qP1_7_6 qP1_7_7 qP1_8_5 qP1_8_6 qP1_8_7 qP1_9_5 qP1_9_6 qP1_9_7 qP1_10_5 qP1_10_6 qP1_10_7 qP1_11_5 qP1_11_6 qP1_11_7
  clear bb
  clear bb5 bb6 bb7
  go_wp2
  go_ret
  exact ⟨rfl, B7⟩
end Go.Proofs.Ytkdkdejgajcneaa
