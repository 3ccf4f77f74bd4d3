/- The walk of the law FnExactJoinTokens. -/
import Derived.Test.YtgennnoplmhckaaJoinToks
import Derived.Test.YtgennnoplmhckaaOpen
import Derived.Deep.RegionHeld3
namespace Go.Proofs.Ytgennnoplmhckaa
open Go.RowKit Go.ChangeShapes
set_option maxRecDepth 100000 in
set_option maxHeartbeats 8000000 in
theorem law_JoinTokens {H : Type} {enc : TypeId × Value → H} {W : World} {base : Nat} {v0 : Value} {d0 : DataW H} {p0 : List MemPlace}
    (k0 : Value.okWide Try.prog W .any base 22 v0) (h0 : DataW.Trod enc Try.prog W 0 (fun _ => true) true 22 v0 d0 p0)
    : Calls Try.prog 4 #[v0] W fun e W' => e = .returned (.bool true) ∧ Below W.heap.size W W' := by
  obtain ⟨a0, c0, l0, n0, rfl, HN0, HS0, hn0, hz0⟩ := open_TokenS k0 h0
  clear k0 h0
  obtain ⟨w0, rfl⟩ : ∃ w0, w0 = W := ⟨W, rfl⟩
  have B0 := Below.refl w0.heap.size w0
  have Z0 : w0.heap.size ≤ w0.heap.size := Nat.le_refl _
  go_enter Try.func4, Try.ntmps4
  go_wp2_with fail
  refine (szTokenS_c a0 c0 l0 n0 1048576 _ (HS0.out.below (by repeat (first | exact Below.refl _ _ | refine Below.drew ?_ | refine Below.alloc ?_ (by first | exact Nat.le_refl _ | (simp; done) | (simp; omega) | omega) _ | refine Below.more ?_ (by first | exact Nat.le_refl _ | (simp; done) | (simp; omega) | omega) _ _ | refine Below.setCell ?_ (by first | exact Nat.le_refl _ | (simp; done) | (simp; omega) | omega) _ | assumption))) (by omega) (by omega) hn0 hz0).mono ?_
  rintro e w1 ⟨r0, rfl, b, hr⟩
  have B1 := B0.trans (b.mono B0.size)
  have Z1 : w0.heap.size ≤ w1.heap.size := B1.size
  have Y1 : w0.heap.size ≤ w1.heap.size := b.size
  clear b
  rcases hr with rfl | ⟨ra0, rb0, rc0⟩
  · go_wp2; go_ret; exact ⟨rfl, B1⟩
  replace hn0 : n0 ≤ 1048576 := by omega
  go_wp2_with fail
  refine (toTokenS_c a0 c0 l0 n0 _ (HS0.out.below (by repeat (first | exact Below.refl _ _ | refine Below.drew ?_ | refine Below.alloc ?_ (by first | exact Nat.le_refl _ | (simp; done) | (simp; omega) | omega) _ | refine Below.more ?_ (by first | exact Nat.le_refl _ | (simp; done) | (simp; omega) | omega) _ _ | refine Below.setCell ?_ (by first | exact Nat.le_refl _ | (simp; done) | (simp; omega) | omega) _ | assumption))) hn0).mono ?_
  rintro e w2 ⟨x1_a, x1_c, rfl, x1_o, b⟩
  have B2 := B1.trans (b.mono B1.size)
  have Z2 : w0.heap.size ≤ w2.heap.size := B2.size
  have Y2 : w1.heap.size ≤ w2.heap.size := b.size
  clear b
  go_wp2_with fail
  refine (spec_JoinTokens_c x1_a x1_c l0 n0 HN0 _ (x1_o.sl.below (by repeat (first | exact Below.refl _ _ | refine Below.drew ?_ | refine Below.alloc ?_ (by first | exact Nat.le_refl _ | (simp; done) | (simp; omega) | omega) _ | refine Below.more ?_ (by first | exact Nat.le_refl _ | (simp; done) | (simp; omega) | omega) _ _ | refine Below.setCell ?_ (by first | exact Nat.le_refl _ | (simp; done) | (simp; omega) | omega) _ | assumption))) hn0 rc0).mono ?_
  rintro e w3 ⟨rfl, b⟩
  replace x1_o := x1_o.below b
  have B3 := B2.trans (b.mono B2.size)
  have Z3 : w0.heap.size ≤ w3.heap.size := B3.size
  have Y3 : w2.heap.size ≤ w3.heap.size := b.size
  clear b
  clear x1_o
  go_wp2_with fail
  refine (toTokenS_c a0 c0 l0 n0 _ (HS0.out.below (by repeat (first | exact Below.refl _ _ | refine Below.drew ?_ | refine Below.alloc ?_ (by first | exact Nat.le_refl _ | (simp; done) | (simp; omega) | omega) _ | refine Below.more ?_ (by first | exact Nat.le_refl _ | (simp; done) | (simp; omega) | omega) _ _ | refine Below.setCell ?_ (by first | exact Nat.le_refl _ | (simp; done) | (simp; omega) | omega) _ | assumption))) hn0).mono ?_
  rintro e w4 ⟨x3_a, x3_c, rfl, x3_o, b⟩
  have B4 := B3.trans (b.mono B3.size)
  have Z4 : w0.heap.size ≤ w4.heap.size := B4.size
  have Y4 : w3.heap.size ≤ w4.heap.size := b.size
  clear b
  go_wp2_with fail
  refine (impl_JoinTokens_c x3_a x3_c l0 n0 HN0 _ (x3_o.sl.below (by repeat (first | exact Below.refl _ _ | refine Below.drew ?_ | refine Below.alloc ?_ (by first | exact Nat.le_refl _ | (simp; done) | (simp; omega) | omega) _ | refine Below.more ?_ (by first | exact Nat.le_refl _ | (simp; done) | (simp; omega) | omega) _ _ | refine Below.setCell ?_ (by first | exact Nat.le_refl _ | (simp; done) | (simp; omega) | omega) _ | assumption))) hn0 rc0).mono ?_
  rintro e w5 ⟨rfl, b⟩
  replace x3_o := x3_o.below b
  have B5 := B4.trans (b.mono B4.size)
  have Z5 : w0.heap.size ≤ w5.heap.size := B5.size
  have Y5 : w4.heap.size ≤ w5.heap.size := b.size
  clear b
  go_wp2_with fail
  refine (toTokenS_c a0 c0 l0 n0 _ (HS0.out.below (by repeat (first | exact Below.refl _ _ | refine Below.drew ?_ | refine Below.alloc ?_ (by first | exact Nat.le_refl _ | (simp; done) | (simp; omega) | omega) _ | refine Below.more ?_ (by first | exact Nat.le_refl _ | (simp; done) | (simp; omega) | omega) _ _ | refine Below.setCell ?_ (by first | exact Nat.le_refl _ | (simp; done) | (simp; omega) | omega) _ | assumption))) hn0).mono ?_
  rintro e w6 ⟨x5_a, x5_c, rfl, x5_o, b⟩
  replace x3_o := x3_o.below b
  have B6 := B5.trans (b.mono B5.size)
  have Z6 : w0.heap.size ≤ w6.heap.size := B6.size
  have Y6 : w5.heap.size ≤ w6.heap.size := b.size
  clear b
  go_wp2_with fail
  refine (eqTokenS_c x3_a x5_a x3_c x5_c l0 n0 _ (x3_o.sl.below (by repeat (first | exact Below.refl _ _ | refine Below.drew ?_ | refine Below.alloc ?_ (by first | exact Nat.le_refl _ | (simp; done) | (simp; omega) | omega) _ | refine Below.more ?_ (by first | exact Nat.le_refl _ | (simp; done) | (simp; omega) | omega) _ _ | refine Below.setCell ?_ (by first | exact Nat.le_refl _ | (simp; done) | (simp; omega) | omega) _ | assumption))) (x5_o.sl.below (by repeat (first | exact Below.refl _ _ | refine Below.drew ?_ | refine Below.alloc ?_ (by first | exact Nat.le_refl _ | (simp; done) | (simp; omega) | omega) _ | refine Below.more ?_ (by first | exact Nat.le_refl _ | (simp; done) | (simp; omega) | omega) _ _ | refine Below.setCell ?_ (by first | exact Nat.le_refl _ | (simp; done) | (simp; omega) | omega) _ | assumption))) (by omega)).mono ?_
  rintro e w7 ⟨rfl, b⟩
  replace x3_o := x3_o.below b
  replace x5_o := x5_o.below b
  have B7 := B6.trans (b.mono B6.size)
  have Z7 : w0.heap.size ≤ w7.heap.size := B7.size
  have Y7 : w6.heap.size ≤ w7.heap.size := b.size
  clear b
  clear x5_o
  go_wp2
  go_ret
  exact ⟨rfl, B7⟩
end Go.Proofs.Ytgennnoplmhckaa
