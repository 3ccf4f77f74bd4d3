/- Contracts of boxes: the bounds of a patch, what lies in a box. -/
import Derived.Test.YtkdkdejgajcneaaBound
namespace Go.Proofs.Ytkdkdejgajcneaa
open Go Go.RowKit
/-- The corners of a patch. -/
def patC (t0 t1 t2 t3 t4 t5 t6 t7 t8 t9 t10 t11 : Int) (i : Nat) : VecD := match i with | 0 => ⟨t0, t1, t2⟩ | 1 => ⟨t3, t4, t5⟩ | 2 => ⟨t6, t7, t8⟩ | _ => ⟨t9, t10, t11⟩
set_option maxRecDepth 100000 in
set_option maxHeartbeats 2000000 in
theorem impl_PatchBounds (t0 t1 t2 t3 t4 t5 t6 t7 t8 t9 t10 t11 : Int) (w : World) :
    Calls Try.prog 40 #[patV t0 t1 t2 t3 t4 t5 t6 t7 t8 t9 t10 t11] w fun e w' => e = .returned (bndV (patC t0 t1 t2 t3 t4 t5 t6 t7 t8 t9 t10 t11) 3) ∧ Below w.heap.size w w' := by
  have HS := Lib.hid (show Sl ((w.alloc (.cells #[.int .i64 t0, .int .i64 t1, .int .i64 t2, .int .i64 t3, .int .i64 t4, .int .i64 t5, .int .i64 t6, .int .i64 t7, .int .i64 t8, .int .i64 t9, .int .i64 t10, .int .i64 t11] 30)).alloc (.cells #[.int .i64 0, .int .i64 0, .int .i64 0, .int .i64 0, .int .i64 0, .int .i64 0] 71)) (some ⟨w.heap.size, 0, none⟩) 3 (3 + 1) (fun i => (patC t0 t1 t2 t3 t4 t5 t6 t7 t8 t9 t10 t11 i).cells) from fun _ => ⟨w.heap.size, 0, rfl, (by simp; omega), fun i hi j hj => by
    have hi' : i = 0 ∨ i = 1 ∨ i = 2 ∨ i = 3 := by omega
    have hj' : j = 0 ∨ j = 1 ∨ j = 2 := by omega
    rcases hi' with rfl | rfl | rfl | rfl <;> rcases hj' with rfl | rfl | rfl <;> simp [go_sem, patC]⟩)
  go_enter Try.func40, Try.ntmps40
  go_wp2_with fail
  refine (impl_BoundPoints _ 4 3 (patC t0 t1 t2 t3 t4 t5 t6 t7 t8 t9 t10 t11) _ (by omega) (by omega) HS.out).mono ?_
  rintro e w1 ⟨rfl, hb⟩
  obtain ⟨X, d, rfl⟩ := Below.ext hb
  clear hb
  go_wp2
  exact bodyPost_ret (v := bndV (patC t0 t1 t2 t3 t4 t5 t6 t7 t8 t9 t10 t11) 3) (by simp [results, Try.results40, go_sem]) rfl ⟨rfl, (by repeat (first | exact Below.refl _ _ | refine Below.drew ?_ | refine Below.alloc ?_ (by first | exact Nat.le_refl _ | (simp; done) | (simp; omega) | omega) _ | refine Below.more ?_ (by first | exact Nat.le_refl _ | (simp; done) | (simp; omega) | omega) _ _ | refine Below.setCell ?_ (by first | exact Nat.le_refl _ | (simp; done) | (simp; omega) | omega) _ | assumption))⟩
@[reducible] def cornersV (x0 y0 z0 x1 y1 z1 : Int) : Value := .tuple #[vecV x0 y0 z0, vecV x1 y1 z1]
set_option maxRecDepth 100000 in
set_option maxHeartbeats 2000000 in
theorem impl_corners (x0 y0 z0 x1 y1 z1 : Int) (w : World) :
    Calls Try.prog 83 #[boxV x0 y0 z0 x1 y1 z1] w fun e w' => e = .returned (cornersV x0 y0 z0 x1 y1 z1) ∧ Below w.heap.size w w' := by
  go_enter Try.func83, Try.ntmps83
  go_wp2
  go_region
  all_goals
    go_wp2
    exact bodyPost_ret (v := cornersV x0 y0 z0 x1 y1 z1) (by simp [results, Try.results83, go_sem]) rfl ⟨rfl, (by repeat (first | exact Below.refl _ _ | refine Below.drew ?_ | refine Below.alloc ?_ (by first | exact Nat.le_refl _ | (simp; done) | (simp; omega) | omega) _ | refine Below.more ?_ (by first | exact Nat.le_refl _ | (simp; done) | (simp; omega) | omega) _ _ | refine Below.setCell ?_ (by first | exact Nat.le_refl _ | (simp; done) | (simp; omega) | omega) _ | assumption))⟩
theorem impl_atMost (a b c d e' f : Int) (h1 : a ≤ d) (h2 : b ≤ e') (h3 : c ≤ f) (w : World) :
    Calls Try.prog 84 #[vecV a b c, vecV d e' f] w fun e w' => e = .returned (.bool true) ∧ Below w.heap.size w w' := by
  go_enter Try.func84, Try.ntmps84
  go_wp2
  all_goals (go_ret; exact ⟨rfl, (by repeat (first | exact Below.refl _ _ | refine Below.drew ?_ | refine Below.alloc ?_ (by first | exact Nat.le_refl _ | (simp; done) | (simp; omega) | omega) _ | refine Below.more ?_ (by first | exact Nat.le_refl _ | (simp; done) | (simp; omega) | omega) _ _ | refine Below.setCell ?_ (by first | exact Nat.le_refl _ | (simp; done) | (simp; omega) | omega) _ | assumption))⟩)
set_option maxRecDepth 100000 in
theorem impl_BoxContains (x0 y0 z0 x1 y1 z1 x y z : Int) (h : InBox x0 y0 z0 x1 y1 z1 ⟨x, y, z⟩) (w : World) :
    Calls Try.prog 41 #[boxV x0 y0 z0 x1 y1 z1, vecV x y z] w fun e w' => e = .returned (.bool true) ∧ Below w.heap.size w w' := by
  have H := Lib.hid h
  clear h
  go_enter Try.func41, Try.ntmps41
  go_wp2_with fail
  refine (impl_corners _ _ _ _ _ _ _).mono ?_
  rintro e wn ⟨rfl, hbn⟩; obtain ⟨X, nX, rfl⟩ := Below.ext hbn; clear hbn
  go_wp2_with fail
  refine (impl_atMost _ _ _ _ _ _ H.out.a.1 H.out.b.1 H.out.c.1 _).mono ?_
  rintro e wn ⟨rfl, hbn⟩; obtain ⟨X, nX, rfl⟩ := Below.ext hbn; clear hbn
  go_wp2_with fail
  refine (impl_atMost _ _ _ _ _ _ H.out.a.2 H.out.b.2 H.out.c.2 _).mono ?_
  rintro e wn ⟨rfl, hbn⟩; obtain ⟨X, nX, rfl⟩ := Below.ext hbn; clear hbn
  go_wp2
  go_ret
  exact ⟨rfl, (by repeat (first | exact Below.refl _ _ | refine Below.drew ?_ | refine Below.alloc ?_ (by first | exact Nat.le_refl _ | (simp; done) | (simp; omega) | omega) _ | refine Below.more ?_ (by first | exact Nat.le_refl _ | (simp; done) | (simp; omega) | omega) _ _ | refine Below.setCell ?_ (by first | exact Nat.le_refl _ | (simp; done) | (simp; omega) | omega) _ | assumption))⟩
end Go.Proofs.Ytkdkdejgajcneaa
