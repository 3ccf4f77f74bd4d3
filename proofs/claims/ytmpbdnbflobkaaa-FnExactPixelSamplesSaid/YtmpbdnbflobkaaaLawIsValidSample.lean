/- The walk of the law FnExactIsValidSample. -/
import Derived.Test.YtmpbdnbflobkaaaPixelAt
import Derived.Test.YtmpbdnbflobkaaaOpen
namespace Go.Proofs.Ytmpbdnbflobkaaa
open Go.RowKit Go.ChangeShapes
theorem has_bd {x : Int} (h : IntKind.i64.has x) : -9223372036854775808 ≤ x ∧ x ≤ 9223372036854775807 := by
  have h' : IntKind.i64.min ≤ x ∧ x ≤ IntKind.i64.max := h
  simpa [IntKind.min, IntKind.max, IntKind.signed, IntKind.bits] using h'
@[reducible] def samV (a b c d e' : Int) : Value := .agg #[.int .i64 a, .int .i64 b, .int .i64 c, .int .i64 d, .int .i64 e']
set_option maxRecDepth 100000 in
theorem open_sample {w : World} {r : Reach} {b : Nat} {v : Value} (hv : Value.okWide Try.prog w r b 25 v) :
    ∃ x y t lx ly : Int, v = samV x y t lx ly ∧ ∀ k ∈ [x, y, t, lx, ly], IntKind.i64.has k := by
  obtain ⟨l, rfl, hl, hc⟩ := open_flat (List.replicate 5 3) Try.underlying25 (by kernel_rfl) (by kernel_rfl) hv
  obtain ⟨ns, h1, rfl, h3⟩ := cells_ints Try.underlying3 5 l (by simpa using hl) hc
  obtain ⟨a, b, c, d, e, rfl⟩ := list5 h1
  exact ⟨a, b, c, d, e, rfl, h3⟩
theorem toSample_c (a b c d e' : Int) (w : World) : Calls Try.prog 9 #[samV a b c d e'] w fun e w' => e = .returned (samV a b c d e') ∧ Below w.heap.size w w' := by
  go_enter Try.func9, Try.ntmps9
  go_wp2
  go_returns
  exact ⟨rfl, (by repeat (first | exact Below.refl _ _ | refine Below.drew ?_ | refine Below.alloc ?_ (by first | exact Nat.le_refl _ | (simp; done) | (simp; omega) | omega) _ | refine Below.more ?_ (by first | exact Nat.le_refl _ | (simp; done) | (simp; omega) | omega) _ _ | refine Below.setCell ?_ (by first | exact Nat.le_refl _ | (simp; done) | (simp; omega) | omega) _ | assumption))⟩
/-- Is a sample valid for a camera? -/
def samOk (ok : Bool) (t lx ly : Int) : Bool := ok && inB t 0 15 && inB lx (-16) 16 && inB ly (-16) 16
theorem impl_IsValidSample (W H Z N : Int) (D : Bool) (L F x y t lx ly : Int) (w : World) :
    Calls Try.prog 10 #[camV W H Z N D L F, samV x y t lx ly] w fun e w' => e = .returned (.bool (samOk (pixOk W H Z N L F x y) t lx ly)) ∧ Below w.heap.size w w' := by
  go_enter Try.func10, Try.ntmps10
  go_wp2_with (first | (go_at_call 18; refine (impl_PixelAt _ _ _ _ _ _ _ _ _ _).mono ?_; rintro e wn ⟨rfl, hbn⟩; obtain ⟨X, nX, rfl⟩ := Below.ext hbn; clear hbn) | (go_at_call 25; refine (within_c _ _ _ _).mono ?_; rintro e w' ⟨rfl, rfl⟩))
  all_goals (go_ret; refine ⟨ret_bool ?_, (by repeat (first | exact Below.refl _ _ | refine Below.drew ?_ | refine Below.alloc ?_ (by first | exact Nat.le_refl _ | (simp; done) | (simp; omega) | omega) _ | refine Below.more ?_ (by first | exact Nat.le_refl _ | (simp; done) | (simp; omega) | omega) _ _ | refine Below.setCell ?_ (by first | exact Nat.le_refl _ | (simp; done) | (simp; omega) | omega) _ | assumption))⟩; simp [samOk, *])
theorem spec_IsValidSample (W H Z N : Int) (D : Bool) (L F x y t lx ly : Int) (w : World) (hx : -9223372036854775808 ≤ x ∧ x ≤ 9223372036854775807) (hy : -9223372036854775808 ≤ y ∧ y ≤ 9223372036854775807) :
    Calls Try.prog 7 #[camV W H Z N D L F, samV x y t lx ly] w fun e w' => e = .returned (.bool (samOk (pixOk W H Z N L F x y) t lx ly)) ∧ Below w.heap.size w w' := by
  have hx' := Lib.hid hx
  have hy' := Lib.hid hy
  clear hx hy
  go_enter Try.func7, Try.ntmps7
  go_wp2_with (first | (go_at_call 23; refine (spec_PixelAt _ _ _ _ _ _ _ _ _ _ hx'.out hy'.out).mono ?_; rintro e wn ⟨rfl, hbn⟩; obtain ⟨X, nX, rfl⟩ := Below.ext hbn; clear hbn) | (go_at_call 24; refine (l01In_c _ _ _ _).mono ?_; rintro e w' ⟨rfl, rfl⟩))
  all_goals (go_ret; refine ⟨ret_bool ?_, (by repeat (first | exact Below.refl _ _ | refine Below.drew ?_ | refine Below.alloc ?_ (by first | exact Nat.le_refl _ | (simp; done) | (simp; omega) | omega) _ | refine Below.more ?_ (by first | exact Nat.le_refl _ | (simp; done) | (simp; omega) | omega) _ _ | refine Below.setCell ?_ (by first | exact Nat.le_refl _ | (simp; done) | (simp; omega) | omega) _ | assumption))⟩; simp [samOk, *])
set_option maxRecDepth 100000 in
theorem law_IsValidSample {H : Type} {enc : TypeId × Value → H} {W : World} {base : Nat} {v0 v1 : Value} {d0 d1 : DataW H} {p0 p1 : List MemPlace}
    (k0 : Value.okWide Try.prog W .any base 23 v0) (_ : DataW.Trod enc Try.prog W 0 (fun _ => true) true 23 v0 d0 p0)
    (k1 : Value.okWide Try.prog W .any base 25 v1) (_ : DataW.Trod enc Try.prog W 0 (fun _ => true) true 25 v1 d1 p1) :
    Calls Try.prog 3 #[v0, v1] W fun e W' => e = .returned (.bool true) ∧ Below W.heap.size W W' := by
  obtain ⟨cW, cH, cZ, cN, cD, cL, cF, rfl, _⟩ := open_camera k0
  obtain ⟨x, y, t, lx, ly, rfl, hb⟩ := open_sample k1
  have bx := Lib.hid (has_bd (hb x (by simp)))
  have by' := Lib.hid (has_bd (hb y (by simp)))
  clear k0 k1 hb
  go_enter Try.func3, Try.ntmps3
  go_wp2
  (first | refine region_q2 (by kernel_rfl) (by kernel_rfl) ?_ | refine region_q (by kernel_rfl) (by kernel_rfl) ?_)
  repeat (quiet_step (fail))
  (refine wpQuiet_step (fun K hK => ?_); go_simp; refine ⟨_, fun zt => ext_below (toCamera_c _ _ _ _ _ _ _ _), hK _ ?_⟩; clear hK K)
  repeat (quiet_step (fail))
  (refine wpQuiet_step (fun K hK => ?_); go_simp; refine ⟨_, fun zt => ext_below (toSample_c _ _ _ _ _ _), hK _ ?_⟩; clear hK K)
  repeat (quiet_step (fail))
  (refine wpQuiet_step (fun K hK => ?_); go_simp; refine ⟨_, fun zt => ext_below (spec_IsValidSample _ _ _ _ _ _ _ _ _ _ _ _ _ bx.out by'.out), hK _ ?_⟩; clear hK K)
  repeat (quiet_step (fail))
  (refine wpQuiet_nil ?_; intro X nX)
  go_wp2
  (first | refine region_q2 (by kernel_rfl) (by kernel_rfl) ?_ | refine region_q (by kernel_rfl) (by kernel_rfl) ?_)
  repeat (quiet_step (fail))
  (refine wpQuiet_step (fun K hK => ?_); go_simp; refine ⟨_, fun zt => ext_below (toCamera_c _ _ _ _ _ _ _ _), hK _ ?_⟩; clear hK K)
  repeat (quiet_step (fail))
  (refine wpQuiet_step (fun K hK => ?_); go_simp; refine ⟨_, fun zt => ext_below (toSample_c _ _ _ _ _ _), hK _ ?_⟩; clear hK K)
  repeat (quiet_step (fail))
  (refine wpQuiet_step (fun K hK => ?_); go_simp; refine ⟨_, fun zt => ext_below (impl_IsValidSample _ _ _ _ _ _ _ _ _ _ _ _ _), hK _ ?_⟩; clear hK K)
  repeat (quiet_step (fail))
  (refine wpQuiet_nil ?_; intro X nX)
  go_wp2
  all_goals (go_ret; exact ⟨rfl, (by repeat (first | exact Below.refl _ _ | refine Below.drew ?_ | refine Below.alloc ?_ (by first | exact Nat.le_refl _ | (simp; done) | (simp; omega) | omega) _ | refine Below.more ?_ (by first | exact Nat.le_refl _ | (simp; done) | (simp; omega) | omega) _ _ | refine Below.setCell ?_ (by first | exact Nat.le_refl _ | (simp; done) | (simp; omega) | omega) _ | assumption))⟩)
end Go.Proofs.Ytmpbdnbflobkaaa
