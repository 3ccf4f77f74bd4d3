/- The walk of the law FnExactInterpolatePatch. -/
import Derived.Test.YtkdkdejgajcneaaInterp
import Derived.Test.YtkdkdejgajcneaaOpen
import Derived.Test.YtkdkdejgajcneaaBox
namespace Go.Proofs.Ytkdkdejgajcneaa
open Go.RowKit Go.ChangeShapes
set_option maxRecDepth 100000 in
theorem open_patch {w : World} {r : Reach} {b : Nat} {v : Value} (hv : Value.okWide Try.prog w r b 52 v) :
    ∃ x0 x1 x2 x3 x4 x5 x6 x7 x8 x9 x10 x11 : Int, v = patV x0 x1 x2 x3 x4 x5 x6 x7 x8 x9 x10 x11 ∧ ∀ k ∈ [x0, x1, x2, x3, x4, x5, x6, x7, x8, x9, x10, x11], IntKind.i64.has k := by
  obtain ⟨l, rfl, hl, hc⟩ := open_flat (List.replicate 12 3) Try.underlying52 (by kernel_rfl) (by kernel_rfl) hv
  obtain ⟨ns, h1, rfl, h3⟩ := cells_ints Try.underlying3 12 l (by simpa using hl) hc
  obtain ⟨x0, x1, x2, x3, x4, x5, x6, x7, x8, x9, x10, x11, rfl⟩ := list12 h1
  exact ⟨x0, x1, x2, x3, x4, x5, x6, x7, x8, x9, x10, x11, rfl, h3⟩
set_option maxRecDepth 100000 in
set_option maxHeartbeats 1000000 in
theorem toVecA4_c (a b c d e' f g h i j k l : Int) (w : World) :
    Calls Try.prog 71 #[patV a b c d e' f g h i j k l] w fun e w' => e = .returned (patV a b c d e' f g h i j k l) ∧ Below w.heap.size w w' := by
  go_enter Try.func71, Try.ntmps71
  go_wp2
  refine wp_loop_rounds 5 ?_
  rw [rounds_succ]; go_wp2_with (go_at_call 52; refine (toVec_c _ _ _ _).mono ?_; rintro e wn ⟨rfl, hbn⟩; obtain ⟨X, nX, rfl⟩ := Below.ext hbn; clear hbn)
  rw [rounds_succ]; go_wp2_with (go_at_call 52; refine (toVec_c _ _ _ _).mono ?_; rintro e wn ⟨rfl, hbn⟩; obtain ⟨X, nX, rfl⟩ := Below.ext hbn; clear hbn)
  rw [rounds_succ]; go_wp2_with (go_at_call 52; refine (toVec_c _ _ _ _).mono ?_; rintro e wn ⟨rfl, hbn⟩; obtain ⟨X, nX, rfl⟩ := Below.ext hbn; clear hbn)
  rw [rounds_succ]; go_wp2_with (go_at_call 52; refine (toVec_c _ _ _ _).mono ?_; rintro e wn ⟨rfl, hbn⟩; obtain ⟨X, nX, rfl⟩ := Below.ext hbn; clear hbn)
  rw [rounds_succ]; go_wp2
  exact bodyPost_ret (v := patV a b c d e' f g h i j k l) (by simp [results, Try.results71, go_sem]) rfl ⟨rfl, (by repeat (first | exact Below.refl _ _ | refine Below.drew ?_ | refine Below.alloc ?_ (by first | exact Nat.le_refl _ | (simp; done) | (simp; omega) | omega) _ | refine Below.more ?_ (by first | exact Nat.le_refl _ | (simp; done) | (simp; omega) | omega) _ _ | refine Below.setCell ?_ (by first | exact Nat.le_refl _ | (simp; done) | (simp; omega) | omega) _ | assumption))⟩
set_option maxRecDepth 100000 in
theorem toPatch_c (a b c d e' f g h i j k l : Int) (w : World) :
    Calls Try.prog 24 #[patV a b c d e' f g h i j k l] w fun e w' => e = .returned (patV a b c d e' f g h i j k l) ∧ Below w.heap.size w w' := by
  go_enter Try.func24, Try.ntmps24
  go_wp2_with (go_at_call 71; refine (toVecA4_c _ _ _ _ _ _ _ _ _ _ _ _ _).mono ?_; rintro e wn ⟨rfl, hbn⟩; obtain ⟨X, nX, rfl⟩ := Below.ext hbn; clear hbn)
  exact bodyPost_ret (v := patV a b c d e' f g h i j k l) (by simp [results, Try.results24, go_sem]) rfl ⟨rfl, (by repeat (first | exact Below.refl _ _ | refine Below.drew ?_ | refine Below.alloc ?_ (by first | exact Nat.le_refl _ | (simp; done) | (simp; omega) | omega) _ | refine Below.more ?_ (by first | exact Nat.le_refl _ | (simp; done) | (simp; omega) | omega) _ _ | refine Below.setCell ?_ (by first | exact Nat.le_refl _ | (simp; done) | (simp; omega) | omega) _ | assumption))⟩
set_option maxRecDepth 100000 in
set_option maxHeartbeats 1000000 in
theorem eqVecA4_c (a b c d e' f g h i j k l : Int) (w : World) : Calls Try.prog 86 #[patV a b c d e' f g h i j k l, patV a b c d e' f g h i j k l] w fun e w' => e = .returned (.bool true) ∧ Below w.heap.size w w' := by
  go_enter Try.func86, Try.ntmps86
  go_wp2
  refine wp_loop_rounds 5 ?_
  rw [rounds_succ]; go_wp2
  (first | refine region_q2 (by kernel_rfl) (by kernel_rfl) ?_ | refine region_q (by kernel_rfl) (by kernel_rfl) ?_)
  repeat (quiet_step (fail))
  (refine wpQuiet_step (fun K hK => ?_); go_simp; refine ⟨_, fun zt => ext_below (eqVec_c _ _ _ _), hK _ ?_⟩; clear hK K)
  repeat (quiet_step (fail))
  (refine wpQuiet_nil ?_; intro X nX)
  go_wp2
  rw [rounds_succ]; go_wp2
  (first | refine region_q2 (by kernel_rfl) (by kernel_rfl) ?_ | refine region_q (by kernel_rfl) (by kernel_rfl) ?_)
  repeat (quiet_step (fail))
  (refine wpQuiet_step (fun K hK => ?_); go_simp; refine ⟨_, fun zt => ext_below (eqVec_c _ _ _ _), hK _ ?_⟩; clear hK K)
  repeat (quiet_step (fail))
  (refine wpQuiet_nil ?_; intro X nX)
  go_wp2
  rw [rounds_succ]; go_wp2
  (first | refine region_q2 (by kernel_rfl) (by kernel_rfl) ?_ | refine region_q (by kernel_rfl) (by kernel_rfl) ?_)
  repeat (quiet_step (fail))
  (refine wpQuiet_step (fun K hK => ?_); go_simp; refine ⟨_, fun zt => ext_below (eqVec_c _ _ _ _), hK _ ?_⟩; clear hK K)
  repeat (quiet_step (fail))
  (refine wpQuiet_nil ?_; intro X nX)
  go_wp2
  rw [rounds_succ]; go_wp2
  (first | refine region_q2 (by kernel_rfl) (by kernel_rfl) ?_ | refine region_q (by kernel_rfl) (by kernel_rfl) ?_)
  repeat (quiet_step (fail))
  (refine wpQuiet_step (fun K hK => ?_); go_simp; refine ⟨_, fun zt => ext_below (eqVec_c _ _ _ _), hK _ ?_⟩; clear hK K)
  repeat (quiet_step (fail))
  (refine wpQuiet_nil ?_; intro X nX)
  go_wp2
  rw [rounds_succ]; go_wp2
  all_goals (go_ret; exact ⟨rfl, (by repeat (first | exact Below.refl _ _ | refine Below.drew ?_ | refine Below.alloc ?_ (by first | exact Nat.le_refl _ | (simp; done) | (simp; omega) | omega) _ | refine Below.more ?_ (by first | exact Nat.le_refl _ | (simp; done) | (simp; omega) | omega) _ _ | refine Below.setCell ?_ (by first | exact Nat.le_refl _ | (simp; done) | (simp; omega) | omega) _ | assumption))⟩)
set_option maxRecDepth 100000 in
theorem eqPatch_c (a b c d e' f g h i j k l : Int) (w : World) : Calls Try.prog 43 #[patV a b c d e' f g h i j k l, patV a b c d e' f g h i j k l] w fun e w' => e = .returned (.bool true) ∧ Below w.heap.size w w' := by
  go_enter Try.func43, Try.ntmps43
  go_wp2_with (go_at_call 86; refine (eqVecA4_c _ _ _ _ _ _ _ _ _ _ _ _ _).mono ?_; rintro e wn ⟨rfl, hbn⟩; obtain ⟨X, nX, rfl⟩ := Below.ext hbn; clear hbn)
  all_goals (go_ret; exact ⟨rfl, (by repeat (first | exact Below.refl _ _ | refine Below.drew ?_ | refine Below.alloc ?_ (by first | exact Nat.le_refl _ | (simp; done) | (simp; omega) | omega) _ | refine Below.more ?_ (by first | exact Nat.le_refl _ | (simp; done) | (simp; omega) | omega) _ _ | refine Below.setCell ?_ (by first | exact Nat.le_refl _ | (simp; done) | (simp; omega) | omega) _ | assumption))⟩)
set_option maxRecDepth 100000 in
set_option maxHeartbeats 2000000 in
theorem law_InterpolatePatch {H : Type} {enc : TypeId × Value → H} {W : World} {base : Nat} {v0 v1 v2 : Value} {d0 d1 d2 : DataW H} {p0 p1 p2 : List MemPlace}
    (k0 : Value.okWide Try.prog W .any base 52 v0) (_ : DataW.Trod enc Try.prog W 0 (fun _ => true) true 52 v0 d0 p0)
    (k1 : Value.okWide Try.prog W .any base 52 v1) (_ : DataW.Trod enc Try.prog W 0 (fun _ => true) true 52 v1 d1 p1)
    (k2 : Value.okWide Try.prog W .any base 3 v2) (h2 : DataW.Trod enc Try.prog W 0 (fun _ => true) true 3 v2 d2 p2) :
    Calls Try.prog 11 #[v0, v1, v2] W fun e W' => e = .returned (.bool true) ∧ Below W.heap.size W W' := by
  obtain ⟨a, b, c, d, e', f, g, h, i, j, k, l, rfl, _⟩ := open_patch k0
  obtain ⟨a2, b2, c2, d2, e2, f2, g2, h2', i2, j2, k2', l2, rfl, _⟩ := open_patch k1
  obtain ⟨n, rfl, _, _, _⟩ := open_int Try.underlying3 k2 h2
  clear k0 k1 k2 h2
  go_enter Try.func11, Try.ntmps11
  go_wp2
  ((first | refine region_box 6 30 [.int .i64 0, .int .i64 0, .int .i64 0, .int .i64 0, .int .i64 0, .int .i64 0, .int .i64 0, .int .i64 0, .int .i64 0, .int .i64 0, .int .i64 0, .int .i64 0] [.int .i64 (ipI a a2 n), .int .i64 (ipI b b2 n), .int .i64 (ipI c c2 n), .int .i64 (ipI d d2 n), .int .i64 (ipI e' e2 n), .int .i64 (ipI f f2 n), .int .i64 (ipI g g2 n), .int .i64 (ipI h h2' n), .int .i64 (ipI i i2 n), .int .i64 (ipI j j2 n), .int .i64 (ipI k k2' n), .int .i64 (ipI l l2 n)] (by kernel_rfl) (by kernel_rfl) ?_ | refine region_box0 6 30 [.int .i64 0, .int .i64 0, .int .i64 0, .int .i64 0, .int .i64 0, .int .i64 0, .int .i64 0, .int .i64 0, .int .i64 0, .int .i64 0, .int .i64 0, .int .i64 0] [.int .i64 (ipI a a2 n), .int .i64 (ipI b b2 n), .int .i64 (ipI c c2 n), .int .i64 (ipI d d2 n), .int .i64 (ipI e' e2 n), .int .i64 (ipI f f2 n), .int .i64 (ipI g g2 n), .int .i64 (ipI h h2' n), .int .i64 (ipI i i2 n), .int .i64 (ipI j j2 n), .int .i64 (ipI k k2' n), .int .i64 (ipI l l2 n)] (by kernel_rfl) (by kernel_rfl) ?_); simp only [List.take_succ_cons, List.take_zero, List.drop_succ_cons, List.drop_zero])
  repeat (refine headS_step (fun K hK => ?_); go_simp; refine hK _ ?_; clear hK K)
  (refine headS_step (fun K hK => ?_); go_simp; refine ⟨_, fun zt => calls_stays (toPatch_c _ _ _ _ _ _ _ _ _ _ _ _ _), hK _ ?_⟩; clear hK K)
  repeat (refine headS_step (fun K hK => ?_); go_simp; refine hK _ ?_; clear hK K)
  (refine headS_step (fun K hK => ?_); go_simp; refine ⟨_, fun zt => calls_stays (toPatch_c _ _ _ _ _ _ _ _ _ _ _ _ _), hK _ ?_⟩; clear hK K)
  repeat (refine headS_step (fun K hK => ?_); go_simp; refine hK _ ?_; clear hK K)
  (refine headS_step (fun K hK => ?_); go_simp; refine ⟨_, fun zt => calls_stays (spec_InterpolatePatch _ _ _ _ _ _ _ _ _ _ _ _ _ _ _ _ _ _ _ _ _ _ _ _ _ _), hK _ ?_⟩; clear hK K)
  repeat (refine headS_step (fun K hK => ?_); go_simp; refine hK _ ?_; clear hK K)
  refine headS_nil ?_
  refine tail_box (by go_simp) (fun X dd => by go_simp) (fun bb => by go_simp) (fun bb w hb => by go_simp) (fun bb => ?_)
  refine tail_done (fun X1 X2 dd hb => ?_)
  subst hb
  simp only [Act.put, List.setIfInBounds_toArray, List.set_cons_zero, List.set_cons_succ]
  go_wp2
  ((first | refine region_box 6 30 [.int .i64 0, .int .i64 0, .int .i64 0, .int .i64 0, .int .i64 0, .int .i64 0, .int .i64 0, .int .i64 0, .int .i64 0, .int .i64 0, .int .i64 0, .int .i64 0] [.int .i64 (ipI a a2 n), .int .i64 (ipI b b2 n), .int .i64 (ipI c c2 n), .int .i64 (ipI d d2 n), .int .i64 (ipI e' e2 n), .int .i64 (ipI f f2 n), .int .i64 (ipI g g2 n), .int .i64 (ipI h h2' n), .int .i64 (ipI i i2 n), .int .i64 (ipI j j2 n), .int .i64 (ipI k k2' n), .int .i64 (ipI l l2 n)] (by kernel_rfl) (by kernel_rfl) ?_ | refine region_box0 6 30 [.int .i64 0, .int .i64 0, .int .i64 0, .int .i64 0, .int .i64 0, .int .i64 0, .int .i64 0, .int .i64 0, .int .i64 0, .int .i64 0, .int .i64 0, .int .i64 0] [.int .i64 (ipI a a2 n), .int .i64 (ipI b b2 n), .int .i64 (ipI c c2 n), .int .i64 (ipI d d2 n), .int .i64 (ipI e' e2 n), .int .i64 (ipI f f2 n), .int .i64 (ipI g g2 n), .int .i64 (ipI h h2' n), .int .i64 (ipI i i2 n), .int .i64 (ipI j j2 n), .int .i64 (ipI k k2' n), .int .i64 (ipI l l2 n)] (by kernel_rfl) (by kernel_rfl) ?_); simp only [List.take_succ_cons, List.take_zero, List.drop_succ_cons, List.drop_zero])
  repeat (refine headS_step (fun K hK => ?_); go_simp; refine hK _ ?_; clear hK K)
  (refine headS_step (fun K hK => ?_); go_simp; refine ⟨_, fun zt => calls_stays (toPatch_c _ _ _ _ _ _ _ _ _ _ _ _ _), hK _ ?_⟩; clear hK K)
  repeat (refine headS_step (fun K hK => ?_); go_simp; refine hK _ ?_; clear hK K)
  (refine headS_step (fun K hK => ?_); go_simp; refine ⟨_, fun zt => calls_stays (toPatch_c _ _ _ _ _ _ _ _ _ _ _ _ _), hK _ ?_⟩; clear hK K)
  repeat (refine headS_step (fun K hK => ?_); go_simp; refine hK _ ?_; clear hK K)
  (refine headS_step (fun K hK => ?_); go_simp; refine ⟨_, fun zt => calls_stays (impl_InterpolatePatch _ _ _ _ _ _ _ _ _ _ _ _ _ _ _ _ _ _ _ _ _ _ _ _ _ _), hK _ ?_⟩; clear hK K)
  repeat (refine headS_step (fun K hK => ?_); go_simp; refine hK _ ?_; clear hK K)
  refine headS_nil ?_
  refine tail_box (by go_simp) (fun X dd => by go_simp) (fun bb => by go_simp) (fun bb w hb => by go_simp) (fun bb => ?_)
  refine tail_done (fun X1 X2 dd hb => ?_)
  subst hb
  simp only [Act.put, List.setIfInBounds_toArray, List.set_cons_zero, List.set_cons_succ]
  go_wp2_with (go_at_call 43; refine (eqPatch_c _ _ _ _ _ _ _ _ _ _ _ _ _).mono ?_; rintro e wn ⟨rfl, hbn⟩; obtain ⟨X, nX, rfl⟩ := Below.ext hbn; clear hbn)
  all_goals (go_ret; exact ⟨rfl, (by repeat (first | exact Below.refl _ _ | refine Below.drew ?_ | refine Below.alloc ?_ (by first | exact Nat.le_refl _ | (simp; done) | (simp; omega) | omega) _ | refine Below.more ?_ (by first | exact Nat.le_refl _ | (simp; done) | (simp; omega) | omega) _ _ | refine Below.setCell ?_ (by first | exact Nat.le_refl _ | (simp; done) | (simp; omega) | omega) _ | assumption))⟩)
end Go.Proofs.Ytkdkdejgajcneaa
