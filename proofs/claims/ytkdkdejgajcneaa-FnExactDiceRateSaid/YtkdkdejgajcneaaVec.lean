/- Contracts of vectors. -/
import Derived.Test.YtkdkdejgajcneaaVecEach
namespace Go.Proofs.Ytkdkdejgajcneaa
open Go.RowKit
/-- A number is an int64. -/
def In64 (n : Int) : Prop := -9223372036854775808 ≤ n ∧ n ≤ 9223372036854775807
theorem flip_same {P : Program} {f : FuncId} {args : Array Value} {w : World} {v : Value} (h : Calls P f args w fun e w' => e = .returned v ∧ w = w') : Calls P f args w fun e w' => e = .returned v ∧ w' = w :=
  h.mono fun _ _ ⟨a, b⟩ => ⟨a, b.symm⟩
theorem impl_clamped (x y z : Int) (w : World) :
    Calls Try.prog 78 #[vecV x y z] w fun e w' => e = .returned (vecV (cc x) (cc y) (cc z)) ∧ Below w.heap.size w w' := by
  go_enter Try.func78, Try.ntmps78
  go_wp2_with fail
  refine (impl_each 107 #[] x y z (cc x) (cc y) (cc z) _ (fun _ _ => by kernel_rfl) (fun W _ => (clamped1_c x W).mono fun _ _ ⟨h, h'⟩ => ⟨h, h'.symm⟩) (fun W _ => (clamped1_c y W).mono fun _ _ ⟨h, h'⟩ => ⟨h, h'.symm⟩) (fun W _ => (clamped1_c z W).mono fun _ _ ⟨h, h'⟩ => ⟨h, h'.symm⟩)).mono ?_
  rintro e wn ⟨rfl, hbn⟩; obtain ⟨X, nX, rfl⟩ := Below.ext hbn; clear hbn
  go_wp2
  exact bodyPost_ret (v := vecV (cc x) (cc y) (cc z)) (by simp [results, Try.results78, go_sem]) rfl ⟨rfl, (by repeat (first | exact Below.refl _ _ | refine Below.drew ?_ | refine Below.alloc ?_ (by first | exact Nat.le_refl _ | (simp; done) | (simp; omega) | omega) _ | refine Below.more ?_ (by first | exact Nat.le_refl _ | (simp; done) | (simp; omega) | omega) _ _ | refine Below.setCell ?_ (by first | exact Nat.le_refl _ | (simp; done) | (simp; omega) | omega) _ | assumption))⟩
theorem times1_c (x k : Int) (b : Nat) (w : World) (hk : w.cell? ⟨b, 0, none⟩ = some (.int .i64 k)) (h1 : -9223372036854775808 ≤ k * x) (h2 : k * x ≤ 9223372036854775807) :
    Calls Try.prog 118 #[.int .i64 x, .pointer (some ⟨b, 0, none⟩)] w fun e w' => e = .returned (.int .i64 (k * x)) ∧ w' = w := by
  go_enter Try.func118, Try.ntmps118
  go_wp2
  go_ret
  exact ⟨rfl, rfl⟩
theorem impl_times (x y z k : Int) (w : World) (hx : In64 (k * x)) (hy : In64 (k * y)) (hz : In64 (k * z)) :
    Calls Try.prog 104 #[vecV x y z, .int .i64 k] w fun e w' => e = .returned (vecV (k * x) (k * y) (k * z)) ∧ Below w.heap.size w w' := by
  go_enter Try.func104, Try.ntmps104
  go_wp2_with fail
  refine (impl_each 118 #[.pointer (some ⟨w.heap.size + 1, 0, none⟩)] x y z (k * x) (k * y) (k * z) _ (fun _ _ => by kernel_rfl) ?_ ?_ ?_).mono ?_
  · exact fun W hb => times1_c x k _ W (by rw [hb.cell (by simp)]; simp [go_sem]) hx.1 hx.2
  · exact fun W hb => times1_c y k _ W (by rw [hb.cell (by simp)]; simp [go_sem]) hy.1 hy.2
  · exact fun W hb => times1_c z k _ W (by rw [hb.cell (by simp)]; simp [go_sem]) hz.1 hz.2
  rintro e wn ⟨rfl, hbn⟩; obtain ⟨X, nX, rfl⟩ := Below.ext hbn; clear hbn
  go_wp2
  exact bodyPost_ret (v := vecV (k * x) (k * y) (k * z)) (by simp [results, Try.results104, go_sem]) rfl ⟨rfl, (by repeat (first | exact Below.refl _ _ | refine Below.drew ?_ | refine Below.alloc ?_ (by first | exact Nat.le_refl _ | (simp; done) | (simp; omega) | omega) _ | refine Below.more ?_ (by first | exact Nat.le_refl _ | (simp; done) | (simp; omega) | omega) _ _ | refine Below.setCell ?_ (by first | exact Nat.le_refl _ | (simp; done) | (simp; omega) | omega) _ | assumption))⟩
theorem over1_c (x k : Int) (b : Nat) (w : World) (hk : w.cell? ⟨b, 0, none⟩ = some (.int .i64 k)) (h : In64 x) :
    Calls Try.prog 119 #[.int .i64 x, .pointer (some ⟨b, 0, none⟩)] w fun e w' => e = .returned (.int .i64 (fdivI x k)) ∧ w' = w := by
  go_enter Try.func119, Try.ntmps119
  go_wp2_with (go_at_call 94; refine (impl_FloorDiv _ _ _ h.1 h.2).mono ?_; rintro e w' ⟨rfl, rfl⟩)
  go_ret
  exact ⟨rfl, rfl⟩
theorem impl_over (x y z k : Int) (w : World) (hx : In64 x) (hy : In64 y) (hz : In64 z) :
    Calls Try.prog 105 #[vecV x y z, .int .i64 k] w fun e w' => e = .returned (vecV (fdivI x k) (fdivI y k) (fdivI z k)) ∧ Below w.heap.size w w' := by
  go_enter Try.func105, Try.ntmps105
  go_wp2_with fail
  refine (impl_each 119 #[.pointer (some ⟨w.heap.size + 1, 0, none⟩)] x y z (fdivI x k) (fdivI y k) (fdivI z k) _ (fun _ _ => by kernel_rfl) ?_ ?_ ?_).mono ?_
  · exact fun W hb => over1_c x k _ W (by rw [hb.cell (by simp)]; simp [go_sem]) hx
  · exact fun W hb => over1_c y k _ W (by rw [hb.cell (by simp)]; simp [go_sem]) hy
  · exact fun W hb => over1_c z k _ W (by rw [hb.cell (by simp)]; simp [go_sem]) hz
  rintro e wn ⟨rfl, hbn⟩; obtain ⟨X, nX, rfl⟩ := Below.ext hbn; clear hbn
  go_wp2
  exact bodyPost_ret (v := vecV (fdivI x k) (fdivI y k) (fdivI z k)) (by simp [results, Try.results105, go_sem]) rfl ⟨rfl, (by repeat (first | exact Below.refl _ _ | refine Below.drew ?_ | refine Below.alloc ?_ (by first | exact Nat.le_refl _ | (simp; done) | (simp; omega) | omega) _ | refine Below.more ?_ (by first | exact Nat.le_refl _ | (simp; done) | (simp; omega) | omega) _ _ | refine Below.setCell ?_ (by first | exact Nat.le_refl _ | (simp; done) | (simp; omega) | omega) _ | assumption))⟩
theorem plus1_c (x y : Int) (w : World) (h1 : -9223372036854775808 ≤ x + y) (h2 : x + y ≤ 9223372036854775807) :
    Calls Try.prog 117 #[.int .i64 x, .int .i64 y] w fun e w' => e = .returned (.int .i64 (x + y)) ∧ w' = w := by
  go_enter Try.func117, Try.ntmps117
  go_wp2
  go_ret
  exact ⟨rfl, rfl⟩
theorem impl_plus (x y z x2 y2 z2 : Int) (w : World) (hx : In64 (x + x2)) (hy : In64 (y + y2)) (hz : In64 (z + z2)) :
    Calls Try.prog 103 #[vecV x y z, vecV x2 y2 z2] w fun e w' => e = .returned (vecV (x + x2) (y + y2) (z + z2)) ∧ Below w.heap.size w w' := by
  go_enter Try.func103, Try.ntmps103
  go_wp2_with fail
  refine (impl_with 117 x y z x2 y2 z2 (x + x2) (y + y2) (z + z2) _ (fun _ _ _ => by kernel_rfl) (fun W _ => plus1_c x x2 W hx.1 hx.2) (fun W _ => plus1_c y y2 W hy.1 hy.2) (fun W _ => plus1_c z z2 W hz.1 hz.2)).mono ?_
  rintro e wn ⟨rfl, hbn⟩; obtain ⟨X, nX, rfl⟩ := Below.ext hbn; clear hbn
  go_wp2
  exact bodyPost_ret (v := vecV (x + x2) (y + y2) (z + z2)) (by simp [results, Try.results103, go_sem]) rfl ⟨rfl, (by repeat (first | exact Below.refl _ _ | refine Below.drew ?_ | refine Below.alloc ?_ (by first | exact Nat.le_refl _ | (simp; done) | (simp; omega) | omega) _ | refine Below.more ?_ (by first | exact Nat.le_refl _ | (simp; done) | (simp; omega) | omega) _ _ | refine Below.setCell ?_ (by first | exact Nat.le_refl _ | (simp; done) | (simp; omega) | omega) _ | assumption))⟩
theorem spec_l02N (n : Int) (w : World) : Calls Try.prog 116 #[.int .i64 n] w fun e w' => e = .returned (.int .i64 (cc n)) ∧ w = w' := by
  go_enter Try.func116, Try.ntmps116
  go_wp2_with (go_at_call 112; refine (spec_Clamp _ _ _ _).mono ?_; rintro e w' ⟨rfl, rfl⟩)
  go_ret
  exact ⟨rfl, rfl⟩
set_option maxRecDepth 100000 in
theorem spec_l02V (x y z : Int) (w : World) : Calls Try.prog 101 #[vecV x y z] w fun e w' => e = .returned (vecV (cc x) (cc y) (cc z)) ∧ Below w.heap.size w w' := by
  go_enter Try.func101, Try.ntmps101
  go_wp2
  refine region_tail 10 (by kernel_rfl) (by kernel_rfl) ?_
  simp only [List.take_succ_cons, List.take_zero, List.drop_succ_cons, List.drop_zero]
  repeat still_step
  still_call (flip_same (spec_l02N _ _))
  repeat still_step
  still_call (flip_same (spec_l02N _ _))
  repeat still_step
  still_call (flip_same (spec_l02N _ _))
  repeat still_step
  refine wpStill_nil ?_
  go_wp2
  go_returns
  exact ⟨rfl, (by repeat (first | exact Below.refl _ _ | refine Below.drew ?_ | refine Below.alloc ?_ (by first | exact Nat.le_refl _ | (simp; done) | (simp; omega) | omega) _ | refine Below.more ?_ (by first | exact Nat.le_refl _ | (simp; done) | (simp; omega) | omega) _ _ | refine Below.setCell ?_ (by first | exact Nat.le_refl _ | (simp; done) | (simp; omega) | omega) _ | assumption))⟩
theorem toVec_c (x y z : Int) (w : World) : Calls Try.prog 52 #[vecV x y z] w fun e w' => e = .returned (vecV x y z) ∧ Below w.heap.size w w' := by
  go_enter Try.func52, Try.ntmps52
  go_wp2
  go_returns
  exact ⟨rfl, (by repeat (first | exact Below.refl _ _ | refine Below.drew ?_ | refine Below.alloc ?_ (by first | exact Nat.le_refl _ | (simp; done) | (simp; omega) | omega) _ | refine Below.more ?_ (by first | exact Nat.le_refl _ | (simp; done) | (simp; omega) | omega) _ _ | refine Below.setCell ?_ (by first | exact Nat.le_refl _ | (simp; done) | (simp; omega) | omega) _ | assumption))⟩
theorem eqVec_c (x y z : Int) (w : World) : Calls Try.prog 54 #[vecV x y z, vecV x y z] w fun e w' => e = .returned (.bool true) ∧ Below w.heap.size w w' := by
  go_enter Try.func54, Try.ntmps54
  go_wp2
  go_ret
  exact ⟨rfl, (by repeat (first | exact Below.refl _ _ | refine Below.drew ?_ | refine Below.alloc ?_ (by first | exact Nat.le_refl _ | (simp; done) | (simp; omega) | omega) _ | refine Below.more ?_ (by first | exact Nat.le_refl _ | (simp; done) | (simp; omega) | omega) _ _ | refine Below.setCell ?_ (by first | exact Nat.le_refl _ | (simp; done) | (simp; omega) | omega) _ | assumption))⟩
/-- All parts are coordinates. -/
def vecOk (x y z : Int) : Bool := inB x (-1000000) 1000000 && inB y (-1000000) 1000000 && inB z (-1000000) 1000000
theorem cc_eq {x : Int} : (x = cc x) ↔ inB x (-1000000) 1000000 = true := by rw [inB_true]; simp only [cc, clampI]; omega
theorem vecOk_eq (x y z : Int) : vecEq x y z (cc x) (cc y) (cc z) = vecOk x y z := by
  rw [Bool.eq_iff_iff, vecEq_iff]
  simp only [vecOk, cc_eq, Bool.and_eq_true, and_assoc]
set_option maxRecDepth 100000 in
theorem impl_IsValidVec (x y z : Int) (w : World) : Calls Try.prog 91 #[vecV x y z] w fun e w' => e = .returned (.bool (vecOk x y z)) ∧ Below w.heap.size w w' := by
  go_enter Try.func91, Try.ntmps91
  go_wp2
  go_region_with (go_at_call 78; refine (impl_clamped _ _ _ _).mono ?_; rintro e wn ⟨rfl, hbn⟩; obtain ⟨X, nX, rfl⟩ := Below.ext hbn; clear hbn)
  all_goals (go_wp2; go_ret; exact ⟨ret_bool (vecOk_eq x y z), (by repeat (first | exact Below.refl _ _ | refine Below.drew ?_ | refine Below.alloc ?_ (by first | exact Nat.le_refl _ | (simp; done) | (simp; omega) | omega) _ | refine Below.more ?_ (by first | exact Nat.le_refl _ | (simp; done) | (simp; omega) | omega) _ _ | refine Below.setCell ?_ (by first | exact Nat.le_refl _ | (simp; done) | (simp; omega) | omega) _ | assumption))⟩)
set_option maxRecDepth 100000 in
theorem spec_IsValidVec (x y z : Int) (w : World) : Calls Try.prog 89 #[vecV x y z] w fun e w' => e = .returned (.bool (vecOk x y z)) ∧ Below w.heap.size w w' := by
  go_enter Try.func89, Try.ntmps89
  go_wp2
  go_region_with (go_at_call 101; refine (spec_l02V _ _ _ _).mono ?_; rintro e wn ⟨rfl, hbn⟩; obtain ⟨X, nX, rfl⟩ := Below.ext hbn; clear hbn)
  all_goals (go_wp2; go_ret; exact ⟨ret_bool (vecOk_eq x y z), (by repeat (first | exact Below.refl _ _ | refine Below.drew ?_ | refine Below.alloc ?_ (by first | exact Nat.le_refl _ | (simp; done) | (simp; omega) | omega) _ | refine Below.more ?_ (by first | exact Nat.le_refl _ | (simp; done) | (simp; omega) | omega) _ _ | refine Below.setCell ?_ (by first | exact Nat.le_refl _ | (simp; done) | (simp; omega) | omega) _ | assumption))⟩)
end Go.Proofs.Ytkdkdejgajcneaa
