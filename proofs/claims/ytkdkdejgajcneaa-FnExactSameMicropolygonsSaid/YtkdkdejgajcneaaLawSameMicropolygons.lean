/- The walk of the law FnExactSameMicropolygons. -/
import Derived.Test.YtkdkdejgajcneaaSameMic
import Derived.Test.YtkdkdejgajcneaaOpen
import Derived.Deep.RegionHeld3
namespace Go.Proofs.Ytkdkdejgajcneaa
open Go.RowKit Go.ChangeShapes
set_option maxRecDepth 100000 in
set_option maxHeartbeats 8000000 in
theorem law_SameMicropolygons {H : Type} {enc : TypeId × Value → H} {W : World} {base : Nat} {v0 v1 : Value} {d0 d1 : DataW H} {p0 p1 : List MemPlace}
    (k0 : Value.okWide Try.prog W .any base 64 v0) (h0 : DataW.Trod enc Try.prog W 0 (fun _ => true) true 64 v0 d0 p0)
    (k1 : Value.okWide Try.prog W .any base 64 v1) (h1 : DataW.Trod enc Try.prog W 0 (fun _ => true) true 64 v1 d1 p1)
    : Calls Try.prog 8 #[v0, v1] W fun e W' => e = .returned (.bool true) ∧ Below W.heap.size W W' := by
  obtain ⟨a0, c0, l0, n0, rfl, HN0, HS0, hn0⟩ := open_MicropolygonS k0 h0
  obtain ⟨a1, c1, l1, n1, rfl, HN1, HS1, hn1⟩ := open_MicropolygonS k1 h1
  clear k0 h0 k1 h1
  obtain ⟨w0, rfl⟩ : ∃ w0, w0 = W := ⟨W, rfl⟩
  have B0 := Below.refl w0.heap.size w0
  have Z0 : w0.heap.size ≤ w0.heap.size := Nat.le_refl _
  go_enter Try.func8, Try.ntmps8
  by_cases hq0 : 1048576 - (n0 : Int) < 0
  · have e0 : Micropolygon.szI 1048576 n0 = -1 := by unfold Micropolygon.szI; rw [if_pos hq0]
    go_wp2_with fail
    refine (szMicropolygonS_c a0 c0 n0 1048576 _ (by omega) (by omega) hn0).mono ?_
    rintro e w' ⟨rfl, rfl⟩; rw [e0]; clear e0
    go_wp2; go_ret; exact ⟨rfl, (by repeat (first | exact Below.refl _ _ | refine Below.drew ?_ | refine Below.alloc ?_ (by first | exact Nat.le_refl _ | (simp; done) | (simp; omega) | omega) _ | refine Below.more ?_ (by first | exact Nat.le_refl _ | (simp; done) | (simp; omega) | omega) _ _ | refine Below.setCell ?_ (by first | exact Nat.le_refl _ | (simp; done) | (simp; omega) | omega) _ | assumption))⟩
  have e0 : Micropolygon.szI 1048576 n0 = 1048576 - n0 := by unfold Micropolygon.szI; rw [if_neg hq0]
  go_wp2_with fail
  refine (szMicropolygonS_c a0 c0 n0 1048576 _ (by omega) (by omega) hn0).mono ?_
  rintro e w' ⟨rfl, rfl⟩; rw [e0]; clear e0
  replace hn0 : n0 ≤ 1048576 := by omega
  by_cases hq1 : (1048576 - n0) - (n1 : Int) < 0
  · have e1 : Micropolygon.szI (1048576 - n0) n1 = -1 := by unfold Micropolygon.szI; rw [if_pos hq1]
    go_wp2_with fail
    refine (szMicropolygonS_c a1 c1 n1 (1048576 - n0) _ (by omega) (by omega) hn1).mono ?_
    rintro e w' ⟨rfl, rfl⟩; rw [e1]; clear e1
    go_wp2; go_ret; exact ⟨rfl, (by repeat (first | exact Below.refl _ _ | refine Below.drew ?_ | refine Below.alloc ?_ (by first | exact Nat.le_refl _ | (simp; done) | (simp; omega) | omega) _ | refine Below.more ?_ (by first | exact Nat.le_refl _ | (simp; done) | (simp; omega) | omega) _ _ | refine Below.setCell ?_ (by first | exact Nat.le_refl _ | (simp; done) | (simp; omega) | omega) _ | assumption))⟩
  have e1 : Micropolygon.szI (1048576 - n0) n1 = (1048576 - n0) - n1 := by unfold Micropolygon.szI; rw [if_neg hq1]
  go_wp2_with fail
  refine (szMicropolygonS_c a1 c1 n1 (1048576 - n0) _ (by omega) (by omega) hn1).mono ?_
  rintro e w' ⟨rfl, rfl⟩; rw [e1]; clear e1
  replace hn1 : n1 ≤ 1048576 := by omega
  go_wp2_with fail
  refine (toMicropolygonS_c a0 c0 l0 n0 _ (HS0.out.below (by repeat (first | exact Below.refl _ _ | refine Below.drew ?_ | refine Below.alloc ?_ (by first | exact Nat.le_refl _ | (simp; done) | (simp; omega) | omega) _ | refine Below.more ?_ (by first | exact Nat.le_refl _ | (simp; done) | (simp; omega) | omega) _ _ | refine Below.setCell ?_ (by first | exact Nat.le_refl _ | (simp; done) | (simp; omega) | omega) _ | assumption))) hn0).mono ?_
  rintro e w1 ⟨x1_a, x1_c, rfl, x1_o, b⟩
  have B1 := B0.trans (b.mono B0.size)
  have Z1 : w0.heap.size ≤ w1.heap.size := B1.size
  have Y1 : w0.heap.size ≤ w1.heap.size := b.size
  clear b
  go_wp2_with fail
  refine (toMicropolygonS_c a1 c1 l1 n1 _ (HS1.out.below (by repeat (first | exact Below.refl _ _ | refine Below.drew ?_ | refine Below.alloc ?_ (by first | exact Nat.le_refl _ | (simp; done) | (simp; omega) | omega) _ | refine Below.more ?_ (by first | exact Nat.le_refl _ | (simp; done) | (simp; omega) | omega) _ _ | refine Below.setCell ?_ (by first | exact Nat.le_refl _ | (simp; done) | (simp; omega) | omega) _ | assumption))) hn1).mono ?_
  rintro e w2 ⟨x2_a, x2_c, rfl, x2_o, b⟩
  replace x1_o := x1_o.below b
  have B2 := B1.trans (b.mono B1.size)
  have Z2 : w0.heap.size ≤ w2.heap.size := B2.size
  have Y2 : w1.heap.size ≤ w2.heap.size := b.size
  clear b
  go_wp2_with fail
  refine (spec_SameMicropolygons_c x1_a x1_c l0 n0 x2_a x2_c l1 n1 HN0 HN1 _ (x1_o.sl.below (by repeat (first | exact Below.refl _ _ | refine Below.drew ?_ | refine Below.alloc ?_ (by first | exact Nat.le_refl _ | (simp; done) | (simp; omega) | omega) _ | refine Below.more ?_ (by first | exact Nat.le_refl _ | (simp; done) | (simp; omega) | omega) _ _ | refine Below.setCell ?_ (by first | exact Nat.le_refl _ | (simp; done) | (simp; omega) | omega) _ | assumption))) (x2_o.sl.below (by repeat (first | exact Below.refl _ _ | refine Below.drew ?_ | refine Below.alloc ?_ (by first | exact Nat.le_refl _ | (simp; done) | (simp; omega) | omega) _ | refine Below.more ?_ (by first | exact Nat.le_refl _ | (simp; done) | (simp; omega) | omega) _ _ | refine Below.setCell ?_ (by first | exact Nat.le_refl _ | (simp; done) | (simp; omega) | omega) _ | assumption))) hn0 hn1).mono ?_
  rintro e w3 ⟨rfl, b⟩
  replace x1_o := x1_o.below b
  replace x2_o := x2_o.below b
  have B3 := B2.trans (b.mono B2.size)
  have Z3 : w0.heap.size ≤ w3.heap.size := B3.size
  have Y3 : w2.heap.size ≤ w3.heap.size := b.size
  clear b
  clear x1_o
  clear x2_o
  go_wp2_with fail
  refine (toMicropolygonS_c a0 c0 l0 n0 _ (HS0.out.below (by repeat (first | exact Below.refl _ _ | refine Below.drew ?_ | refine Below.alloc ?_ (by first | exact Nat.le_refl _ | (simp; done) | (simp; omega) | omega) _ | refine Below.more ?_ (by first | exact Nat.le_refl _ | (simp; done) | (simp; omega) | omega) _ _ | refine Below.setCell ?_ (by first | exact Nat.le_refl _ | (simp; done) | (simp; omega) | omega) _ | assumption))) hn0).mono ?_
  rintro e w4 ⟨x4_a, x4_c, rfl, x4_o, b⟩
  have B4 := B3.trans (b.mono B3.size)
  have Z4 : w0.heap.size ≤ w4.heap.size := B4.size
  have Y4 : w3.heap.size ≤ w4.heap.size := b.size
  clear b
  go_wp2_with fail
  refine (toMicropolygonS_c a1 c1 l1 n1 _ (HS1.out.below (by repeat (first | exact Below.refl _ _ | refine Below.drew ?_ | refine Below.alloc ?_ (by first | exact Nat.le_refl _ | (simp; done) | (simp; omega) | omega) _ | refine Below.more ?_ (by first | exact Nat.le_refl _ | (simp; done) | (simp; omega) | omega) _ _ | refine Below.setCell ?_ (by first | exact Nat.le_refl _ | (simp; done) | (simp; omega) | omega) _ | assumption))) hn1).mono ?_
  rintro e w5 ⟨x5_a, x5_c, rfl, x5_o, b⟩
  replace x4_o := x4_o.below b
  have B5 := B4.trans (b.mono B4.size)
  have Z5 : w0.heap.size ≤ w5.heap.size := B5.size
  have Y5 : w4.heap.size ≤ w5.heap.size := b.size
  clear b
  go_wp2_with fail
  refine (impl_SameMicropolygons_c x4_a x4_c l0 n0 x5_a x5_c l1 n1 HN0 HN1 _ (x4_o.sl.below (by repeat (first | exact Below.refl _ _ | refine Below.drew ?_ | refine Below.alloc ?_ (by first | exact Nat.le_refl _ | (simp; done) | (simp; omega) | omega) _ | refine Below.more ?_ (by first | exact Nat.le_refl _ | (simp; done) | (simp; omega) | omega) _ _ | refine Below.setCell ?_ (by first | exact Nat.le_refl _ | (simp; done) | (simp; omega) | omega) _ | assumption))) (x5_o.sl.below (by repeat (first | exact Below.refl _ _ | refine Below.drew ?_ | refine Below.alloc ?_ (by first | exact Nat.le_refl _ | (simp; done) | (simp; omega) | omega) _ | refine Below.more ?_ (by first | exact Nat.le_refl _ | (simp; done) | (simp; omega) | omega) _ _ | refine Below.setCell ?_ (by first | exact Nat.le_refl _ | (simp; done) | (simp; omega) | omega) _ | assumption))) hn0 hn1).mono ?_
  rintro e w6 ⟨rfl, b⟩
  replace x4_o := x4_o.below b
  replace x5_o := x5_o.below b
  have B6 := B5.trans (b.mono B5.size)
  have Z6 : w0.heap.size ≤ w6.heap.size := B6.size
  have Y6 : w5.heap.size ≤ w6.heap.size := b.size
  clear b
  go_wp2_with fail
  refine (toMicropolygonS_c a0 c0 l0 n0 _ (HS0.out.below (by repeat (first | exact Below.refl _ _ | refine Below.drew ?_ | refine Below.alloc ?_ (by first | exact Nat.le_refl _ | (simp; done) | (simp; omega) | omega) _ | refine Below.more ?_ (by first | exact Nat.le_refl _ | (simp; done) | (simp; omega) | omega) _ _ | refine Below.setCell ?_ (by first | exact Nat.le_refl _ | (simp; done) | (simp; omega) | omega) _ | assumption))) hn0).mono ?_
  rintro e w7 ⟨x7_a, x7_c, rfl, x7_o, b⟩
  replace x4_o := x4_o.below b
  replace x5_o := x5_o.below b
  have B7 := B6.trans (b.mono B6.size)
  have Z7 : w0.heap.size ≤ w7.heap.size := B7.size
  have Y7 : w6.heap.size ≤ w7.heap.size := b.size
  clear b
  go_wp2_with fail
  refine (eqMicropolygonS_c x4_a x7_a x4_c x7_c l0 n0 _ (x4_o.sl.below (by repeat (first | exact Below.refl _ _ | refine Below.drew ?_ | refine Below.alloc ?_ (by first | exact Nat.le_refl _ | (simp; done) | (simp; omega) | omega) _ | refine Below.more ?_ (by first | exact Nat.le_refl _ | (simp; done) | (simp; omega) | omega) _ _ | refine Below.setCell ?_ (by first | exact Nat.le_refl _ | (simp; done) | (simp; omega) | omega) _ | assumption))) (x7_o.sl.below (by repeat (first | exact Below.refl _ _ | refine Below.drew ?_ | refine Below.alloc ?_ (by first | exact Nat.le_refl _ | (simp; done) | (simp; omega) | omega) _ | refine Below.more ?_ (by first | exact Nat.le_refl _ | (simp; done) | (simp; omega) | omega) _ _ | refine Below.setCell ?_ (by first | exact Nat.le_refl _ | (simp; done) | (simp; omega) | omega) _ | assumption))) (by omega)).mono ?_
  rintro e w8 ⟨rfl, b⟩
  replace x4_o := x4_o.below b
  replace x5_o := x5_o.below b
  replace x7_o := x7_o.below b
  have B8 := B7.trans (b.mono B7.size)
  have Z8 : w0.heap.size ≤ w8.heap.size := B8.size
  have Y8 : w7.heap.size ≤ w8.heap.size := b.size
  clear b
  clear x7_o
  go_wp2_with fail
  refine (toMicropolygonS_c a1 c1 l1 n1 _ (HS1.out.below (by repeat (first | exact Below.refl _ _ | refine Below.drew ?_ | refine Below.alloc ?_ (by first | exact Nat.le_refl _ | (simp; done) | (simp; omega) | omega) _ | refine Below.more ?_ (by first | exact Nat.le_refl _ | (simp; done) | (simp; omega) | omega) _ _ | refine Below.setCell ?_ (by first | exact Nat.le_refl _ | (simp; done) | (simp; omega) | omega) _ | assumption))) hn1).mono ?_
  rintro e w9 ⟨x8_a, x8_c, rfl, x8_o, b⟩
  replace x4_o := x4_o.below b
  replace x5_o := x5_o.below b
  have B9 := B8.trans (b.mono B8.size)
  have Z9 : w0.heap.size ≤ w9.heap.size := B9.size
  have Y9 : w8.heap.size ≤ w9.heap.size := b.size
  clear b
  go_wp2_with fail
  refine (eqMicropolygonS_c x5_a x8_a x5_c x8_c l1 n1 _ (x5_o.sl.below (by repeat (first | exact Below.refl _ _ | refine Below.drew ?_ | refine Below.alloc ?_ (by first | exact Nat.le_refl _ | (simp; done) | (simp; omega) | omega) _ | refine Below.more ?_ (by first | exact Nat.le_refl _ | (simp; done) | (simp; omega) | omega) _ _ | refine Below.setCell ?_ (by first | exact Nat.le_refl _ | (simp; done) | (simp; omega) | omega) _ | assumption))) (x8_o.sl.below (by repeat (first | exact Below.refl _ _ | refine Below.drew ?_ | refine Below.alloc ?_ (by first | exact Nat.le_refl _ | (simp; done) | (simp; omega) | omega) _ | refine Below.more ?_ (by first | exact Nat.le_refl _ | (simp; done) | (simp; omega) | omega) _ _ | refine Below.setCell ?_ (by first | exact Nat.le_refl _ | (simp; done) | (simp; omega) | omega) _ | assumption))) (by omega)).mono ?_
  rintro e w10 ⟨rfl, b⟩
  replace x4_o := x4_o.below b
  replace x5_o := x5_o.below b
  replace x8_o := x8_o.below b
  have B10 := B9.trans (b.mono B9.size)
  have Z10 : w0.heap.size ≤ w10.heap.size := B10.size
  have Y10 : w9.heap.size ≤ w10.heap.size := b.size
  clear b
  clear x8_o
  go_wp2
  go_ret
  exact ⟨rfl, B10⟩
end Go.Proofs.Ytkdkdejgajcneaa
