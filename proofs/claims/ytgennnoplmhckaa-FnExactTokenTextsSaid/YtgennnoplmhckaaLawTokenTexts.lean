/- The walk of the law FnExactTokenTexts. -/
import Derived.Test.YtgennnoplmhckaaTokTexts
import Derived.Test.YtgennnoplmhckaaOpen
namespace Go.Proofs.Ytgennnoplmhckaa
open Go.RowKit Go.ChangeShapes
set_option maxRecDepth 100000 in
set_option maxHeartbeats 4000000 in
theorem law_TokenTexts {H : Type} {enc : TypeId × Value → H} {W : World} {base : Nat} {v0 : Value} {d0 : DataW H} {p0 : List MemPlace}
    (k0 : Value.okWide Try.prog W .any base 22 v0) (h0 : DataW.Trod enc Try.prog W 0 (fun _ => true) true 22 v0 d0 p0)
    : Calls Try.prog 3 #[v0] W fun e W' => e = .returned (.bool true) ∧ Below W.heap.size W W' := by
  obtain ⟨a0, c0, l0, n0, rfl, HN0, HS0, hn0, hz0⟩ := open_TokenS k0 h0
  clear k0 h0
  have B0 := Below.refl W.heap.size W
  obtain ⟨w0, rfl⟩ : ∃ w0, w0 = W := ⟨W, rfl⟩
  go_enter Try.func3, Try.ntmps3
  have F0 := HS0.out
  have Z0 : w0.heap.size ≤ w0.heap.size := Nat.le_refl _
  go_wp2_with fail
  refine (szTokenS_c a0 c0 l0 n0 1048576 _ (F0.below B0) (by omega) (by omega) hn0 hz0).mono ?_
  rintro e w1 ⟨r0, rfl, b, hr⟩
  have B1 := B0.trans (b.mono B0.size)
  have Z1 : w0.heap.size ≤ w1.heap.size := B1.size
  have Y1 : w0.heap.size ≤ w1.heap.size := b.size
  rcases hr with rfl | ⟨ra0, rb0, rc0⟩
  · go_wp2; go_ret; exact ⟨rfl, B1⟩
  replace hn0 : n0 ≤ 1048576 := by omega
  have hres : (texts l0).length ≤ 1048576 := Nat.le_trans (texts_len l0) (by have := HN0.out; omega)
  go_wp2_with fail
  refine (toTokenS_c a0 c0 l0 n0 _ (F0.below B1) hn0).mono ?_
  rintro e w2 ⟨x1_a, x1_c, rfl, x1_o, b⟩
  have B2 := B1.trans (b.mono B1.size)
  have Z2 : w0.heap.size ≤ w2.heap.size := B2.size
  have Y2 : w1.heap.size ≤ w2.heap.size := b.size
  go_wp2_with fail
  refine (spec_TokenTexts_c x1_a x1_c l0 n0 HN0 _ x1_o.sl hn0).mono ?_
  rintro e w3 ⟨x2_a, x2_c, rfl, x2_o, b⟩
  replace x1_o := x1_o.below b
  have B3 := B2.trans (b.mono B2.size)
  have Z3 : w0.heap.size ≤ w3.heap.size := B3.size
  have Y3 : w2.heap.size ≤ w3.heap.size := b.size
  go_wp2_with fail
  refine (toTokenS_c a0 c0 l0 n0 _ (F0.below B3) hn0).mono ?_
  rintro e w4 ⟨x3_a, x3_c, rfl, x3_o, b⟩
  replace x2_o := x2_o.below b
  have B4 := B3.trans (b.mono B3.size)
  have Z4 : w0.heap.size ≤ w4.heap.size := B4.size
  have Y4 : w3.heap.size ≤ w4.heap.size := b.size
  go_wp2_with fail
  refine (impl_TokenTexts_c x3_a x3_c l0 n0 HN0 _ x3_o.sl hn0).mono ?_
  rintro e w5 ⟨x4_a, x4_c, rfl, x4_o, b⟩
  replace x2_o := x2_o.below b
  replace x3_o := x3_o.below b
  have B5 := B4.trans (b.mono B4.size)
  have Z5 : w0.heap.size ≤ w5.heap.size := B5.size
  have Y5 : w4.heap.size ≤ w5.heap.size := b.size
  go_wp2_with fail
  refine (eqStringS_c x4_a x2_a x4_c x2_c (texts l0) (texts l0).length _ x4_o.sl x2_o.sl (by omega)).mono ?_
  rintro e w6 ⟨rfl, b⟩
  replace x2_o := x2_o.below b
  replace x3_o := x3_o.below b
  replace x4_o := x4_o.below b
  have B6 := B5.trans (b.mono B5.size)
  have Z6 : w0.heap.size ≤ w6.heap.size := B6.size
  have Y6 : w5.heap.size ≤ w6.heap.size := b.size
  go_wp2_with fail
  refine (toTokenS_c a0 c0 l0 n0 _ (F0.below B6) hn0).mono ?_
  rintro e w7 ⟨x5_a, x5_c, rfl, x5_o, b⟩
  replace x2_o := x2_o.below b
  replace x3_o := x3_o.below b
  replace x4_o := x4_o.below b
  have B7 := B6.trans (b.mono B6.size)
  have Z7 : w0.heap.size ≤ w7.heap.size := B7.size
  have Y7 : w6.heap.size ≤ w7.heap.size := b.size
  go_wp2_with fail
  refine (eqTokenS_c x3_a x5_a x3_c x5_c l0 n0 _ x3_o.sl x5_o.sl (by omega)).mono ?_
  rintro e w8 ⟨rfl, b⟩
  replace x2_o := x2_o.below b
  replace x3_o := x3_o.below b
  replace x4_o := x4_o.below b
  replace x5_o := x5_o.below b
  have B8 := B7.trans (b.mono B7.size)
  have Z8 : w0.heap.size ≤ w8.heap.size := B8.size
  have Y8 : w7.heap.size ≤ w8.heap.size := b.size
  go_wp2_with fail
  refine (markTokenS_c x3_a x3_c l0 n0 1 _ _ _ x3_o (by omega) (by omega)).mono ?_
  rintro e w9 ⟨rfl, x3_o2, g⟩
  replace x2_o := x2_o.chg g (.inl (Nat.le_refl _))
  replace x4_o := x4_o.chg g (.inr (Nat.le_refl _))
  have B9 := Below.chg B8 g Z3 B8.size
  have Z9 : w0.heap.size ≤ w9.heap.size := B9.size
  have Y9 : w8.heap.size ≤ w9.heap.size := g.size
  clear g
  go_wp2_with fail
  refine (eqStringS_c x4_a x2_a x4_c x2_c (texts l0) (texts l0).length _ x4_o.sl x2_o.sl (by omega)).mono ?_
  rintro e w10 ⟨rfl, b⟩
  replace x2_o := x2_o.below b
  replace x4_o := x4_o.below b
  have B10 := B9.trans (b.mono B9.size)
  have Z10 : w0.heap.size ≤ w10.heap.size := B10.size
  have Y10 : w9.heap.size ≤ w10.heap.size := b.size
  go_wp2_with fail
  refine (markStringS_c x4_a x4_c (texts l0) (texts l0).length 1 _ _ _ x4_o (by omega) (by omega)).mono ?_
  rintro e w11 ⟨rfl, x4_o2, g⟩
  replace x2_o := x2_o.chg g (.inl (by omega))
  have B11 := Below.chg B10 g Z4 B10.size
  have Z11 : w0.heap.size ≤ w11.heap.size := B11.size
  have Y11 : w10.heap.size ≤ w11.heap.size := g.size
  clear g
  go_wp2_with fail
  refine (heldStringS_c x4_a x4_c (texts l0) (texts l0).length 1 _ x4_o2.sl (by omega) (by omega)).mono ?_
  rintro e w12 ⟨rfl, b⟩
  replace x2_o := x2_o.below b
  replace x4_o2 := x4_o2.below b
  have B12 := B11.trans (b.mono B11.size)
  have Z12 : w0.heap.size ≤ w12.heap.size := B12.size
  have Y12 : w11.heap.size ≤ w12.heap.size := b.size
  go_wp2_with fail
  refine (toTokenS_c a0 c0 l0 n0 _ (F0.below B12) hn0).mono ?_
  rintro e w13 ⟨x6_a, x6_c, rfl, x6_o, b⟩
  replace x2_o := x2_o.below b
  replace x4_o2 := x4_o2.below b
  have B13 := B12.trans (b.mono B12.size)
  have Z13 : w0.heap.size ≤ w13.heap.size := B13.size
  have Y13 : w12.heap.size ≤ w13.heap.size := b.size
  go_wp2_with fail
  refine (impl_TokenTexts_c x6_a x6_c l0 n0 HN0 _ x6_o.sl hn0).mono ?_
  rintro e w14 ⟨x7_a, x7_c, rfl, x7_o, b⟩
  replace x2_o := x2_o.below b
  replace x4_o2 := x4_o2.below b
  replace x6_o := x6_o.below b
  have B14 := B13.trans (b.mono B13.size)
  have Z14 : w0.heap.size ≤ w14.heap.size := B14.size
  have Y14 : w13.heap.size ≤ w14.heap.size := b.size
  go_wp2_with fail
  refine (eqStringS_c x7_a x2_a x7_c x2_c (texts l0) (texts l0).length _ x7_o.sl x2_o.sl (by omega)).mono ?_
  rintro e w15 ⟨rfl, b⟩
  replace x2_o := x2_o.below b
  replace x4_o2 := x4_o2.below b
  replace x7_o := x7_o.below b
  have B15 := B14.trans (b.mono B14.size)
  have Z15 : w0.heap.size ≤ w15.heap.size := B15.size
  have Y15 : w14.heap.size ≤ w15.heap.size := b.size
  go_wp2_with fail
  refine (heldStringS_c x4_a x4_c (texts l0) (texts l0).length 1 _ x4_o2.sl (by omega) (by omega)).mono ?_
  rintro e w16 ⟨rfl, b⟩
  replace x2_o := x2_o.below b
  replace x4_o2 := x4_o2.below b
  replace x7_o := x7_o.below b
  have B16 := B15.trans (b.mono B15.size)
  have Z16 : w0.heap.size ≤ w16.heap.size := B16.size
  have Y16 : w15.heap.size ≤ w16.heap.size := b.size
  go_wp2
  go_ret
  exact ⟨rfl, B16⟩
end Go.Proofs.Ytgennnoplmhckaa
