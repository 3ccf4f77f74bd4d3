/- The walk of the law FnExactPixelSamples. -/
import Derived.Test.YtmpbdnbflobkaaaPixSamples
import Derived.Test.YtmpbdnbflobkaaaLawIsValidSample
import Derived.Test.YtmpbdnbflobkaaaOpen
import Derived.Deep.RegionHeld3
namespace Go.Proofs.Ytmpbdnbflobkaaa
open Go.RowKit Go.ChangeShapes
set_option maxRecDepth 100000 in
set_option maxHeartbeats 8000000 in
theorem law_PixelSamples {H : Type} {enc : TypeId × Value → H} {W : World} {base : Nat} {v0 v1 v2 v3 : Value} {d0 d1 d2 d3 : DataW H} {p0 p1 p2 p3 : List MemPlace}
    (k0 : Value.okWide Try.prog W .any base 23 v0) (h0 : DataW.Trod enc Try.prog W 0 (fun _ => true) true 23 v0 d0 p0)
    (k1 : Value.okWide Try.prog W .any base 3 v1) (h1 : DataW.Trod enc Try.prog W 0 (fun _ => true) true 3 v1 d1 p1)
    (k2 : Value.okWide Try.prog W .any base 3 v2) (h2 : DataW.Trod enc Try.prog W 0 (fun _ => true) true 3 v2 d2 p2)
    (k3 : Value.okWide Try.prog W .any base 3 v3) (h3 : DataW.Trod enc Try.prog W 0 (fun _ => true) true 3 v3 d3 p3)
    : Calls Try.prog 6 #[v0, v1, v2, v3] W fun e W' => e = .returned (.bool true) ∧ Below W.heap.size W W' := by
  obtain ⟨cW, cH, cZ, cN, cD, cL, cF, rfl, _, _, _, _, _, _⟩ := open_camera k0
  obtain ⟨x1, rfl, _, _, _⟩ := open_int Try.underlying3 k1 h1
  obtain ⟨x2, rfl, _, _, _⟩ := open_int Try.underlying3 k2 h2
  obtain ⟨x3, rfl, _, _, _⟩ := open_int Try.underlying3 k3 h3
  clear k0 h0 k1 h1 k2 h2 k3 h3
  obtain ⟨w0, rfl⟩ : ∃ w0, w0 = W := ⟨W, rfl⟩
  have B0 := Below.refl w0.heap.size w0
  have Z0 : w0.heap.size ≤ w0.heap.size := Nat.le_refl _
  go_enter Try.func6, Try.ntmps6
  have hres : samplesN cW cH cZ cN cL cF x1 x2 x3 ≤ 1048576 := samplesN_le _ _ _ _ _ _ _ _ _
  go_wp2_with fail
  refine (toCamera_c cW cH cZ cN cD cL cF _).mono ?_
  rintro e w1 ⟨rfl, b⟩
  have bb : Below w0.heap.size w0 w1 := (Below.alloc (Below.refl w0.heap.size w0) (Nat.le_refl _) _).trans (b.mono (by simp))
  have qP0_0 : w1.cell? ⟨w0.heap.size, 0, none⟩ = some (.int .i64 cW) := (b.cell (p := ⟨w0.heap.size, 0, none⟩) (by simp)).trans (by simp [go_sem])
  have qP0_1 : w1.cell? ⟨w0.heap.size, 1, none⟩ = some (.int .i64 cH) := (b.cell (p := ⟨w0.heap.size, 1, none⟩) (by simp)).trans (by simp [go_sem])
  have qP0_2 : w1.cell? ⟨w0.heap.size, 2, none⟩ = some (.int .i64 cZ) := (b.cell (p := ⟨w0.heap.size, 2, none⟩) (by simp)).trans (by simp [go_sem])
  have qP0_3 : w1.cell? ⟨w0.heap.size, 3, none⟩ = some (.int .i64 cN) := (b.cell (p := ⟨w0.heap.size, 3, none⟩) (by simp)).trans (by simp [go_sem])
  have qP0_4 : w1.cell? ⟨w0.heap.size, 4, none⟩ = some (.bool cD) := (b.cell (p := ⟨w0.heap.size, 4, none⟩) (by simp)).trans (by simp [go_sem])
  have qP0_5 : w1.cell? ⟨w0.heap.size, 5, none⟩ = some (.int .i64 cL) := (b.cell (p := ⟨w0.heap.size, 5, none⟩) (by simp)).trans (by simp [go_sem])
  have qP0_6 : w1.cell? ⟨w0.heap.size, 6, none⟩ = some (.int .i64 cF) := (b.cell (p := ⟨w0.heap.size, 6, none⟩) (by simp)).trans (by simp [go_sem])
  have sP0 := World.block_lt_of_cell? _ _ qP0_0
  clear b
  have B1 := B0.trans (bb.mono B0.size)
  have Z1 : w0.heap.size ≤ w1.heap.size := B1.size
  have Y1 : w0.heap.size ≤ w1.heap.size := bb.size
  clear bb
  go_wp2_with fail
  refine (spec_PixelSamples_c cW cH cZ cN cD cL cF x1 x2 x3 _).mono ?_
  rintro e w2 ⟨x2_a, x2_c, rfl, x2_o, b⟩
  replace qP0_0 := cell_below b qP0_0
  replace qP0_1 := cell_below b qP0_1
  replace qP0_2 := cell_below b qP0_2
  replace qP0_3 := cell_below b qP0_3
  replace qP0_4 := cell_below b qP0_4
  replace qP0_5 := cell_below b qP0_5
  replace qP0_6 := cell_below b qP0_6
  have B2 := B1.trans (b.mono B1.size)
  have Z2 : w0.heap.size ≤ w2.heap.size := B2.size
  have Y2 : w1.heap.size ≤ w2.heap.size := b.size
  clear b
  go_wp2_with fail
  refine (toCamera_c cW cH cZ cN cD cL cF _).mono ?_
  rintro e w3 ⟨rfl, b⟩
  replace qP0_0 := cell_below b qP0_0
  replace qP0_1 := cell_below b qP0_1
  replace qP0_2 := cell_below b qP0_2
  replace qP0_3 := cell_below b qP0_3
  replace qP0_4 := cell_below b qP0_4
  replace qP0_5 := cell_below b qP0_5
  replace qP0_6 := cell_below b qP0_6
  replace x2_o := x2_o.below b
  have B3 := B2.trans (b.mono B2.size)
  have Z3 : w0.heap.size ≤ w3.heap.size := B3.size
  have Y3 : w2.heap.size ≤ w3.heap.size := b.size
  clear b
  go_wp2_with fail
  refine (impl_PixelSamples_c cW cH cZ cN cD cL cF x1 x2 x3 _).mono ?_
  rintro e w4 ⟨x4_a, x4_c, rfl, x4_o, b⟩
  replace qP0_0 := cell_below b qP0_0
  replace qP0_1 := cell_below b qP0_1
  replace qP0_2 := cell_below b qP0_2
  replace qP0_3 := cell_below b qP0_3
  replace qP0_4 := cell_below b qP0_4
  replace qP0_5 := cell_below b qP0_5
  replace qP0_6 := cell_below b qP0_6
  replace x2_o := x2_o.below b
  have B4 := B3.trans (b.mono B3.size)
  have Z4 : w0.heap.size ≤ w4.heap.size := B4.size
  have Y4 : w3.heap.size ≤ w4.heap.size := b.size
  clear b
  go_wp2_with fail
  refine (eqSampleS_c x4_a x2_a x4_c x2_c (samplesL cW cH cZ cN cL cF x1 x2 x3) (samplesN cW cH cZ cN cL cF x1 x2 x3) _ (x4_o.sl.below (by repeat (first | exact Below.refl _ _ | refine Below.drew ?_ | refine Below.alloc ?_ (by first | exact Nat.le_refl _ | (simp; done) | (simp; omega) | omega) _ | refine Below.more ?_ (by first | exact Nat.le_refl _ | (simp; done) | (simp; omega) | omega) _ _ | refine Below.setCell ?_ (by first | exact Nat.le_refl _ | (simp; done) | (simp; omega) | omega) _ | assumption))) (x2_o.sl.below (by repeat (first | exact Below.refl _ _ | refine Below.drew ?_ | refine Below.alloc ?_ (by first | exact Nat.le_refl _ | (simp; done) | (simp; omega) | omega) _ | refine Below.more ?_ (by first | exact Nat.le_refl _ | (simp; done) | (simp; omega) | omega) _ _ | refine Below.setCell ?_ (by first | exact Nat.le_refl _ | (simp; done) | (simp; omega) | omega) _ | assumption))) (by omega)).mono ?_
  rintro e w5 ⟨rfl, b⟩
  replace qP0_0 := cell_below b qP0_0
  replace qP0_1 := cell_below b qP0_1
  replace qP0_2 := cell_below b qP0_2
  replace qP0_3 := cell_below b qP0_3
  replace qP0_4 := cell_below b qP0_4
  replace qP0_5 := cell_below b qP0_5
  replace qP0_6 := cell_below b qP0_6
  replace x2_o := x2_o.below b
  replace x4_o := x4_o.below b
  have B5 := B4.trans (b.mono B4.size)
  have Z5 : w0.heap.size ≤ w5.heap.size := B5.size
  have Y5 : w4.heap.size ≤ w5.heap.size := b.size
  clear b
  go_wp2_with fail
  refine (markSampleS_c x4_a x4_c (samplesL cW cH cZ cN cL cF x1 x2 x3) (samplesN cW cH cZ cN cL cF x1 x2 x3) 1 (w3.heap.size) w4.heap.size _ x4_o (by omega) (by omega)).mono ?_
  rintro e w6 ⟨rfl, x4_o2, g⟩
  replace qP0_0 := cell_chg g (by first | exact .inl (by omega) | exact .inr (by omega)) qP0_0
  replace qP0_1 := cell_chg g (by first | exact .inl (by omega) | exact .inr (by omega)) qP0_1
  replace qP0_2 := cell_chg g (by first | exact .inl (by omega) | exact .inr (by omega)) qP0_2
  replace qP0_3 := cell_chg g (by first | exact .inl (by omega) | exact .inr (by omega)) qP0_3
  replace qP0_4 := cell_chg g (by first | exact .inl (by omega) | exact .inr (by omega)) qP0_4
  replace qP0_5 := cell_chg g (by first | exact .inl (by omega) | exact .inr (by omega)) qP0_5
  replace qP0_6 := cell_chg g (by first | exact .inl (by omega) | exact .inr (by omega)) qP0_6
  replace x2_o := x2_o.chg g (by omega)
  have B6 := Below.chg B5 g (by omega) B5.size
  have Z6 : w0.heap.size ≤ w6.heap.size := B6.size
  have Y6 : w5.heap.size ≤ w6.heap.size := g.size
  clear g
  go_wp2_with fail
  refine (heldSampleS_c x4_a x4_c (samplesL cW cH cZ cN cL cF x1 x2 x3) (samplesN cW cH cZ cN cL cF x1 x2 x3) 1 _ x4_o2.sl (by omega) (by omega)).mono ?_
  rintro e w7 ⟨rfl, b⟩
  replace qP0_0 := cell_below b qP0_0
  replace qP0_1 := cell_below b qP0_1
  replace qP0_2 := cell_below b qP0_2
  replace qP0_3 := cell_below b qP0_3
  replace qP0_4 := cell_below b qP0_4
  replace qP0_5 := cell_below b qP0_5
  replace qP0_6 := cell_below b qP0_6
  replace x2_o := x2_o.below b
  replace x4_o2 := x4_o2.below b
  have B7 := B6.trans (b.mono B6.size)
  have Z7 : w0.heap.size ≤ w7.heap.size := B7.size
  have Y7 : w6.heap.size ≤ w7.heap.size := b.size
  clear b
  go_wp2_with fail
  refine (toCamera_c cW cH cZ cN cD cL cF _).mono ?_
  rintro e w8 ⟨rfl, b⟩
  replace qP0_0 := cell_below b qP0_0
  replace qP0_1 := cell_below b qP0_1
  replace qP0_2 := cell_below b qP0_2
  replace qP0_3 := cell_below b qP0_3
  replace qP0_4 := cell_below b qP0_4
  replace qP0_5 := cell_below b qP0_5
  replace qP0_6 := cell_below b qP0_6
  replace x2_o := x2_o.below b
  replace x4_o2 := x4_o2.below b
  have B8 := B7.trans (b.mono B7.size)
  have Z8 : w0.heap.size ≤ w8.heap.size := B8.size
  have Y8 : w7.heap.size ≤ w8.heap.size := b.size
  clear b
  go_wp2_with fail
  refine (impl_PixelSamples_c cW cH cZ cN cD cL cF x1 x2 x3 _).mono ?_
  rintro e w9 ⟨x6_a, x6_c, rfl, x6_o, b⟩
  replace qP0_0 := cell_below b qP0_0
  replace qP0_1 := cell_below b qP0_1
  replace qP0_2 := cell_below b qP0_2
  replace qP0_3 := cell_below b qP0_3
  replace qP0_4 := cell_below b qP0_4
  replace qP0_5 := cell_below b qP0_5
  replace qP0_6 := cell_below b qP0_6
  replace x2_o := x2_o.below b
  replace x4_o2 := x4_o2.below b
  have B9 := B8.trans (b.mono B8.size)
  have Z9 : w0.heap.size ≤ w9.heap.size := B9.size
  have Y9 : w8.heap.size ≤ w9.heap.size := b.size
  clear b
  go_wp2_with fail
  refine (eqSampleS_c x6_a x2_a x6_c x2_c (samplesL cW cH cZ cN cL cF x1 x2 x3) (samplesN cW cH cZ cN cL cF x1 x2 x3) _ (x6_o.sl.below (by repeat (first | exact Below.refl _ _ | refine Below.drew ?_ | refine Below.alloc ?_ (by first | exact Nat.le_refl _ | (simp; done) | (simp; omega) | omega) _ | refine Below.more ?_ (by first | exact Nat.le_refl _ | (simp; done) | (simp; omega) | omega) _ _ | refine Below.setCell ?_ (by first | exact Nat.le_refl _ | (simp; done) | (simp; omega) | omega) _ | assumption))) (x2_o.sl.below (by repeat (first | exact Below.refl _ _ | refine Below.drew ?_ | refine Below.alloc ?_ (by first | exact Nat.le_refl _ | (simp; done) | (simp; omega) | omega) _ | refine Below.more ?_ (by first | exact Nat.le_refl _ | (simp; done) | (simp; omega) | omega) _ _ | refine Below.setCell ?_ (by first | exact Nat.le_refl _ | (simp; done) | (simp; omega) | omega) _ | assumption))) (by omega)).mono ?_
  rintro e w10 ⟨rfl, b⟩
  replace qP0_0 := cell_below b qP0_0
  replace qP0_1 := cell_below b qP0_1
  replace qP0_2 := cell_below b qP0_2
  replace qP0_3 := cell_below b qP0_3
  replace qP0_4 := cell_below b qP0_4
  replace qP0_5 := cell_below b qP0_5
  replace qP0_6 := cell_below b qP0_6
  replace x2_o := x2_o.below b
  replace x4_o2 := x4_o2.below b
  replace x6_o := x6_o.below b
  have B10 := B9.trans (b.mono B9.size)
  have Z10 : w0.heap.size ≤ w10.heap.size := B10.size
  have Y10 : w9.heap.size ≤ w10.heap.size := b.size
  clear b
  go_wp2_with fail
  refine (heldSampleS_c x4_a x4_c (samplesL cW cH cZ cN cL cF x1 x2 x3) (samplesN cW cH cZ cN cL cF x1 x2 x3) 1 _ x4_o2.sl (by omega) (by omega)).mono ?_
  rintro e w11 ⟨rfl, b⟩
  replace qP0_0 := cell_below b qP0_0
  replace qP0_1 := cell_below b qP0_1
  replace qP0_2 := cell_below b qP0_2
  replace qP0_3 := cell_below b qP0_3
  replace qP0_4 := cell_below b qP0_4
  replace qP0_5 := cell_below b qP0_5
  replace qP0_6 := cell_below b qP0_6
  replace x2_o := x2_o.below b
  replace x4_o2 := x4_o2.below b
  replace x6_o := x6_o.below b
  have B11 := B10.trans (b.mono B10.size)
  have Z11 : w0.heap.size ≤ w11.heap.size := B11.size
  have Y11 : w10.heap.size ≤ w11.heap.size := b.size
  clear b
  go_wp2
  go_ret
  exact ⟨rfl, B11⟩
end Go.Proofs.Ytmpbdnbflobkaaa
