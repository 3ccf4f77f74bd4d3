/- Contracts of InterpolatePatch. -/
import Derived.Test.YtkdkdejgajcneaaLerp
import Derived.Test.YtkdkdejgajcneaaOpen
namespace Go.Proofs.Ytkdkdejgajcneaa
open Go.RowKit
@[reducible] def patV (a b c d e' f g h i j k l : Int) : Value := .agg #[.int .i64 a, .int .i64 b, .int .i64 c, .int .i64 d, .int .i64 e', .int .i64 f, .int .i64 g, .int .i64 h, .int .i64 i, .int .i64 j, .int .i64 k, .int .i64 l]
/-- One part of a patch, interpolated. -/
def ipI (x y i : Int) : Int := if inB i 0 16 then lerpI x y i 16 else x
@[go_sem] theorem ipl_0 (a x y : Nat) : a < a + 1 + 1 + 1 + x + y := by omega
@[go_sem] theorem ipl_1 (a x y : Nat) : a < a + 1 + 1 + 1 + x + y + 1 := by omega
@[go_sem] theorem ipl_2 (a x y z : Nat) : a < a + 1 + 1 + 1 + x + y + z := by omega
@[go_sem] theorem ipl_3 (a x y z : Nat) : a < a + 1 + 1 + 1 + x + y + z + 1 := by omega
@[go_sem] theorem ipl_4 (a x y z u : Nat) : a < a + 1 + 1 + 1 + x + y + z + u := by omega
@[go_sem] theorem ipl_5 (a x y z u : Nat) : a < a + 1 + 1 + 1 + x + y + z + u + 1 := by omega
@[go_sem] theorem ipl_6 (a x y : Nat) : a < a + 1 + 1 + 1 + x + 1 + y := by omega
@[go_sem] theorem ipl_7 (a x y : Nat) : a < a + 1 + 1 + 1 + x + 1 + y + 1 := by omega
@[go_sem] theorem ipl_8 (a x y z : Nat) : a < a + 1 + 1 + 1 + x + 1 + y + 1 + z := by omega
@[go_sem] theorem ipl_9 (a x y z : Nat) : a < a + 1 + 1 + 1 + x + 1 + y + 1 + z + 1 := by omega
@[go_sem] theorem ipl_10 (a x y z u : Nat) : a < a + 1 + 1 + 1 + x + 1 + y + 1 + z + 1 + u := by omega
@[go_sem] theorem ipl_11 (a x y z u : Nat) : a < a + 1 + 1 + 1 + x + 1 + y + 1 + z + 1 + u + 1 := by omega
@[go_sem] theorem ipl_12 (a x y : Nat) : a < a + 1 + 1 + 1 + 1 + x + y := by omega
@[go_sem] theorem ipl_13 (a x y : Nat) : a < a + 1 + 1 + 1 + 1 + x + y + 1 := by omega
@[go_sem] theorem ipl_14 (a x y z : Nat) : a < a + 1 + 1 + 1 + 1 + x + y + z := by omega
@[go_sem] theorem ipl_15 (a x y z : Nat) : a < a + 1 + 1 + 1 + 1 + x + y + z + 1 := by omega
@[go_sem] theorem ipl_16 (a x y z u : Nat) : a < a + 1 + 1 + 1 + 1 + x + y + z + u := by omega
@[go_sem] theorem ipl_17 (a x y z u : Nat) : a < a + 1 + 1 + 1 + 1 + x + y + z + u + 1 := by omega
@[go_sem] theorem ipl_18 (a x y : Nat) : a < a + 1 + 1 + 1 + 1 + x + 1 + y := by omega
@[go_sem] theorem ipl_19 (a x y : Nat) : a < a + 1 + 1 + 1 + 1 + x + 1 + y + 1 := by omega
@[go_sem] theorem ipl_20 (a x y z : Nat) : a < a + 1 + 1 + 1 + 1 + x + 1 + y + 1 + z := by omega
@[go_sem] theorem ipl_21 (a x y z : Nat) : a < a + 1 + 1 + 1 + 1 + x + 1 + y + 1 + z + 1 := by omega
@[go_sem] theorem ipl_22 (a x y z u : Nat) : a < a + 1 + 1 + 1 + 1 + x + 1 + y + 1 + z + 1 + u := by omega
@[go_sem] theorem ipl_23 (a x y z u : Nat) : a < a + 1 + 1 + 1 + 1 + x + 1 + y + 1 + z + 1 + u + 1 := by omega
@[go_sem] theorem ipl_24 (a x y : Nat) : a + 1 < a + 1 + 1 + 1 + x + y := by omega
@[go_sem] theorem ipl_25 (a x y : Nat) : a + 1 < a + 1 + 1 + 1 + x + y + 1 := by omega
@[go_sem] theorem ipl_26 (a x y z : Nat) : a + 1 < a + 1 + 1 + 1 + x + y + z := by omega
@[go_sem] theorem ipl_27 (a x y z : Nat) : a + 1 < a + 1 + 1 + 1 + x + y + z + 1 := by omega
@[go_sem] theorem ipl_28 (a x y z u : Nat) : a + 1 < a + 1 + 1 + 1 + x + y + z + u := by omega
@[go_sem] theorem ipl_29 (a x y z u : Nat) : a + 1 < a + 1 + 1 + 1 + x + y + z + u + 1 := by omega
@[go_sem] theorem ipl_30 (a x y : Nat) : a + 1 < a + 1 + 1 + 1 + x + 1 + y := by omega
@[go_sem] theorem ipl_31 (a x y : Nat) : a + 1 < a + 1 + 1 + 1 + x + 1 + y + 1 := by omega
@[go_sem] theorem ipl_32 (a x y z : Nat) : a + 1 < a + 1 + 1 + 1 + x + 1 + y + 1 + z := by omega
@[go_sem] theorem ipl_33 (a x y z : Nat) : a + 1 < a + 1 + 1 + 1 + x + 1 + y + 1 + z + 1 := by omega
@[go_sem] theorem ipl_34 (a x y z u : Nat) : a + 1 < a + 1 + 1 + 1 + x + 1 + y + 1 + z + 1 + u := by omega
@[go_sem] theorem ipl_35 (a x y z u : Nat) : a + 1 < a + 1 + 1 + 1 + x + 1 + y + 1 + z + 1 + u + 1 := by omega
@[go_sem] theorem ipl_36 (a x y : Nat) : a + 1 < a + 1 + 1 + 1 + 1 + x + y := by omega
@[go_sem] theorem ipl_37 (a x y : Nat) : a + 1 < a + 1 + 1 + 1 + 1 + x + y + 1 := by omega
@[go_sem] theorem ipl_38 (a x y z : Nat) : a + 1 < a + 1 + 1 + 1 + 1 + x + y + z := by omega
@[go_sem] theorem ipl_39 (a x y z : Nat) : a + 1 < a + 1 + 1 + 1 + 1 + x + y + z + 1 := by omega
@[go_sem] theorem ipl_40 (a x y z u : Nat) : a + 1 < a + 1 + 1 + 1 + 1 + x + y + z + u := by omega
@[go_sem] theorem ipl_41 (a x y z u : Nat) : a + 1 < a + 1 + 1 + 1 + 1 + x + y + z + u + 1 := by omega
@[go_sem] theorem ipl_42 (a x y : Nat) : a + 1 < a + 1 + 1 + 1 + 1 + x + 1 + y := by omega
@[go_sem] theorem ipl_43 (a x y : Nat) : a + 1 < a + 1 + 1 + 1 + 1 + x + 1 + y + 1 := by omega
@[go_sem] theorem ipl_44 (a x y z : Nat) : a + 1 < a + 1 + 1 + 1 + 1 + x + 1 + y + 1 + z := by omega
@[go_sem] theorem ipl_45 (a x y z : Nat) : a + 1 < a + 1 + 1 + 1 + 1 + x + 1 + y + 1 + z + 1 := by omega
@[go_sem] theorem ipl_46 (a x y z u : Nat) : a + 1 < a + 1 + 1 + 1 + 1 + x + 1 + y + 1 + z + 1 + u := by omega
@[go_sem] theorem ipl_47 (a x y z u : Nat) : a + 1 < a + 1 + 1 + 1 + 1 + x + 1 + y + 1 + z + 1 + u + 1 := by omega
@[go_sem] theorem ipl_48 (a x y : Nat) : a + 1 + 1 < a + 1 + 1 + 1 + x + y := by omega
@[go_sem] theorem ipl_49 (a x y : Nat) : a + 1 + 1 < a + 1 + 1 + 1 + x + y + 1 := by omega
@[go_sem] theorem ipl_50 (a x y z : Nat) : a + 1 + 1 < a + 1 + 1 + 1 + x + y + z := by omega
@[go_sem] theorem ipl_51 (a x y z : Nat) : a + 1 + 1 < a + 1 + 1 + 1 + x + y + z + 1 := by omega
@[go_sem] theorem ipl_52 (a x y z u : Nat) : a + 1 + 1 < a + 1 + 1 + 1 + x + y + z + u := by omega
@[go_sem] theorem ipl_53 (a x y z u : Nat) : a + 1 + 1 < a + 1 + 1 + 1 + x + y + z + u + 1 := by omega
@[go_sem] theorem ipl_54 (a x y : Nat) : a + 1 + 1 < a + 1 + 1 + 1 + x + 1 + y := by omega
@[go_sem] theorem ipl_55 (a x y : Nat) : a + 1 + 1 < a + 1 + 1 + 1 + x + 1 + y + 1 := by omega
@[go_sem] theorem ipl_56 (a x y z : Nat) : a + 1 + 1 < a + 1 + 1 + 1 + x + 1 + y + 1 + z := by omega
@[go_sem] theorem ipl_57 (a x y z : Nat) : a + 1 + 1 < a + 1 + 1 + 1 + x + 1 + y + 1 + z + 1 := by omega
@[go_sem] theorem ipl_58 (a x y z u : Nat) : a + 1 + 1 < a + 1 + 1 + 1 + x + 1 + y + 1 + z + 1 + u := by omega
@[go_sem] theorem ipl_59 (a x y z u : Nat) : a + 1 + 1 < a + 1 + 1 + 1 + x + 1 + y + 1 + z + 1 + u + 1 := by omega
@[go_sem] theorem ipl_60 (a x y : Nat) : a + 1 + 1 < a + 1 + 1 + 1 + 1 + x + y := by omega
@[go_sem] theorem ipl_61 (a x y : Nat) : a + 1 + 1 < a + 1 + 1 + 1 + 1 + x + y + 1 := by omega
@[go_sem] theorem ipl_62 (a x y z : Nat) : a + 1 + 1 < a + 1 + 1 + 1 + 1 + x + y + z := by omega
@[go_sem] theorem ipl_63 (a x y z : Nat) : a + 1 + 1 < a + 1 + 1 + 1 + 1 + x + y + z + 1 := by omega
@[go_sem] theorem ipl_64 (a x y z u : Nat) : a + 1 + 1 < a + 1 + 1 + 1 + 1 + x + y + z + u := by omega
@[go_sem] theorem ipl_65 (a x y z u : Nat) : a + 1 + 1 < a + 1 + 1 + 1 + 1 + x + y + z + u + 1 := by omega
@[go_sem] theorem ipl_66 (a x y : Nat) : a + 1 + 1 < a + 1 + 1 + 1 + 1 + x + 1 + y := by omega
@[go_sem] theorem ipl_67 (a x y : Nat) : a + 1 + 1 < a + 1 + 1 + 1 + 1 + x + 1 + y + 1 := by omega
@[go_sem] theorem ipl_68 (a x y z : Nat) : a + 1 + 1 < a + 1 + 1 + 1 + 1 + x + 1 + y + 1 + z := by omega
@[go_sem] theorem ipl_69 (a x y z : Nat) : a + 1 + 1 < a + 1 + 1 + 1 + 1 + x + 1 + y + 1 + z + 1 := by omega
@[go_sem] theorem ipl_70 (a x y z u : Nat) : a + 1 + 1 < a + 1 + 1 + 1 + 1 + x + 1 + y + 1 + z + 1 + u := by omega
@[go_sem] theorem ipl_71 (a x y z u : Nat) : a + 1 + 1 < a + 1 + 1 + 1 + 1 + x + 1 + y + 1 + z + 1 + u + 1 := by omega
@[go_sem] theorem ipl_72 (a x y : Nat) : a + 1 + 1 + 1 < a + 1 + 1 + 1 + 1 + x + y := by omega
@[go_sem] theorem ipl_73 (a x y : Nat) : a + 1 + 1 + 1 < a + 1 + 1 + 1 + 1 + x + y + 1 := by omega
@[go_sem] theorem ipl_74 (a x y z : Nat) : a + 1 + 1 + 1 < a + 1 + 1 + 1 + 1 + x + y + z := by omega
@[go_sem] theorem ipl_75 (a x y z : Nat) : a + 1 + 1 + 1 < a + 1 + 1 + 1 + 1 + x + y + z + 1 := by omega
@[go_sem] theorem ipl_76 (a x y z u : Nat) : a + 1 + 1 + 1 < a + 1 + 1 + 1 + 1 + x + y + z + u := by omega
@[go_sem] theorem ipl_77 (a x y z u : Nat) : a + 1 + 1 + 1 < a + 1 + 1 + 1 + 1 + x + y + z + u + 1 := by omega
@[go_sem] theorem ipl_78 (a x y : Nat) : a + 1 + 1 + 1 < a + 1 + 1 + 1 + 1 + x + 1 + y := by omega
@[go_sem] theorem ipl_79 (a x y : Nat) : a + 1 + 1 + 1 < a + 1 + 1 + 1 + 1 + x + 1 + y + 1 := by omega
@[go_sem] theorem ipl_80 (a x y z : Nat) : a + 1 + 1 + 1 < a + 1 + 1 + 1 + 1 + x + 1 + y + 1 + z := by omega
@[go_sem] theorem ipl_81 (a x y z : Nat) : a + 1 + 1 + 1 < a + 1 + 1 + 1 + 1 + x + 1 + y + 1 + z + 1 := by omega
@[go_sem] theorem ipl_82 (a x y z u : Nat) : a + 1 + 1 + 1 < a + 1 + 1 + 1 + 1 + x + 1 + y + 1 + z + 1 + u := by omega
@[go_sem] theorem ipl_83 (a x y z u : Nat) : a + 1 + 1 + 1 < a + 1 + 1 + 1 + 1 + x + 1 + y + 1 + z + 1 + u + 1 := by omega
set_option maxRecDepth 100000 in
set_option maxHeartbeats 2000000 in
theorem impl_InterpolatePatch (a b c d e' f g h i j k l a2 b2 c2 d2 e2 f2 g2 h2 i2 j2 k2 l2 n : Int) (w : World) :
    Calls Try.prog 38 #[patV a b c d e' f g h i j k l, patV a2 b2 c2 d2 e2 f2 g2 h2 i2 j2 k2 l2, .int .i64 n] w fun e w' =>
      e = .returned (patV (ipI a a2 n) (ipI b b2 n) (ipI c c2 n) (ipI d d2 n) (ipI e' e2 n) (ipI f f2 n) (ipI g g2 n) (ipI h h2 n) (ipI i i2 n) (ipI j j2 n) (ipI k k2 n) (ipI l l2 n)) ∧ Below w.heap.size w w' := by
  have ix0 : ∀ w, (Instr.index 28 (patV a b c d e' f g h i j k l) (.int .i64 0)).run Try.prog w = .ok (.agg #[.int .i64 a, .int .i64 b, .int .i64 c]) w := fun _ => by kernel_rfl
  have ix1 : ∀ w, (Instr.index 28 (patV a b c d e' f g h i j k l) (.int .i64 1)).run Try.prog w = .ok (.agg #[.int .i64 d, .int .i64 e', .int .i64 f]) w := fun _ => by kernel_rfl
  have ix2 : ∀ w, (Instr.index 28 (patV a b c d e' f g h i j k l) (.int .i64 2)).run Try.prog w = .ok (.agg #[.int .i64 g, .int .i64 h, .int .i64 i]) w := fun _ => by kernel_rfl
  have ix3 : ∀ w, (Instr.index 28 (patV a b c d e' f g h i j k l) (.int .i64 3)).run Try.prog w = .ok (.agg #[.int .i64 j, .int .i64 k, .int .i64 l]) w := fun _ => by kernel_rfl
  cases hok : inB n 0 16
  · go_enter Try.func38, Try.ntmps38
    go_wp2_with (go_at_call 62; refine (within_c _ _ _ _).mono ?_; rintro e w' ⟨rfl, rfl⟩)
    all_goals exact bodyPost_ret (v := patV (ipI a a2 n) (ipI b b2 n) (ipI c c2 n) (ipI d d2 n) (ipI e' e2 n) (ipI f f2 n) (ipI g g2 n) (ipI h h2 n) (ipI i i2 n) (ipI j j2 n) (ipI k k2 n) (ipI l l2 n)) (by simp [results, Try.results38, go_sem, ipI, hok]) rfl ⟨rfl, (by repeat (first | exact Below.refl _ _ | refine Below.drew ?_ | refine Below.alloc ?_ (by first | exact Nat.le_refl _ | (simp; done) | (simp; omega) | omega) _ | refine Below.more ?_ (by first | exact Nat.le_refl _ | (simp; done) | (simp; omega) | omega) _ _ | refine Below.setCell ?_ (by first | exact Nat.le_refl _ | (simp; done) | (simp; omega) | omega) _ | assumption))⟩
  · go_enter Try.func38, Try.ntmps38
    go_wp2_with (go_at_call 62; refine (within_c _ _ _ _).mono ?_; rintro e w' ⟨rfl, rfl⟩)
    all_goals try (exfalso; simp_all; done)
    refine wp_loop_rounds 5 ?_
    rw [rounds_succ]; go_wp2
    ((first | refine region_qt2 10 (by kernel_rfl) (by kernel_rfl) ?_ | refine region_qt 10 (by kernel_rfl) (by kernel_rfl) ?_); simp only [List.take_succ_cons, List.take_zero, List.drop_succ_cons, List.drop_zero])
    repeat (quiet_step (fail))
    (refine wpQuiet_step (fun K hK => ?_); go_simp; refine ⟨_, fun zt => ext_below (impl_Lerp _ _ _ _ _ _ _ _ _), hK _ ?_⟩; clear hK K)
    repeat (quiet_step (fail))
    (refine wpQuiet_nil ?_; intro X nX)
    go_wp2
    rw [rounds_succ]; go_wp2
    ((first | refine region_qt2 10 (by kernel_rfl) (by kernel_rfl) ?_ | refine region_qt 10 (by kernel_rfl) (by kernel_rfl) ?_); simp only [List.take_succ_cons, List.take_zero, List.drop_succ_cons, List.drop_zero])
    repeat (quiet_step (fail))
    (refine wpQuiet_step (fun K hK => ?_); go_simp; refine ⟨_, fun zt => ext_below (impl_Lerp _ _ _ _ _ _ _ _ _), hK _ ?_⟩; clear hK K)
    repeat (quiet_step (fail))
    (refine wpQuiet_nil ?_; intro X nX)
    go_wp2
    rw [rounds_succ]; go_wp2
    ((first | refine region_qt2 10 (by kernel_rfl) (by kernel_rfl) ?_ | refine region_qt 10 (by kernel_rfl) (by kernel_rfl) ?_); simp only [List.take_succ_cons, List.take_zero, List.drop_succ_cons, List.drop_zero])
    repeat (quiet_step (fail))
    (refine wpQuiet_step (fun K hK => ?_); go_simp; refine ⟨_, fun zt => ext_below (impl_Lerp _ _ _ _ _ _ _ _ _), hK _ ?_⟩; clear hK K)
    repeat (quiet_step (fail))
    (refine wpQuiet_nil ?_; intro X nX)
    go_wp2
    rw [rounds_succ]; go_wp2
    ((first | refine region_qt2 10 (by kernel_rfl) (by kernel_rfl) ?_ | refine region_qt 10 (by kernel_rfl) (by kernel_rfl) ?_); simp only [List.take_succ_cons, List.take_zero, List.drop_succ_cons, List.drop_zero])
    repeat (quiet_step (fail))
    (refine wpQuiet_step (fun K hK => ?_); go_simp; refine ⟨_, fun zt => ext_below (impl_Lerp _ _ _ _ _ _ _ _ _), hK _ ?_⟩; clear hK K)
    repeat (quiet_step (fail))
    (refine wpQuiet_nil ?_; intro X nX)
    go_wp2
    rw [rounds_succ]; go_wp2
    exact bodyPost_ret (v := patV (ipI a a2 n) (ipI b b2 n) (ipI c c2 n) (ipI d d2 n) (ipI e' e2 n) (ipI f f2 n) (ipI g g2 n) (ipI h h2 n) (ipI i i2 n) (ipI j j2 n) (ipI k k2 n) (ipI l l2 n)) (by simp [results, Try.results38, go_sem, ipI, hok]) rfl ⟨rfl, (by repeat (first | exact Below.refl _ _ | refine Below.drew ?_ | refine Below.alloc ?_ (by first | exact Nat.le_refl _ | (simp; done) | (simp; omega) | omega) _ | refine Below.more ?_ (by first | exact Nat.le_refl _ | (simp; done) | (simp; omega) | omega) _ _ | refine Below.setCell ?_ (by first | exact Nat.le_refl _ | (simp; done) | (simp; omega) | omega) _ | assumption))⟩
set_option maxRecDepth 100000 in
set_option maxHeartbeats 2000000 in
theorem spec_InterpolatePatch (a b c d e' f g h i j k l a2 b2 c2 d2 e2 f2 g2 h2 i2 j2 k2 l2 n : Int) (w : World) :
    Calls Try.prog 42 #[patV a b c d e' f g h i j k l, patV a2 b2 c2 d2 e2 f2 g2 h2 i2 j2 k2 l2, .int .i64 n] w fun e w' =>
      e = .returned (patV (ipI a a2 n) (ipI b b2 n) (ipI c c2 n) (ipI d d2 n) (ipI e' e2 n) (ipI f f2 n) (ipI g g2 n) (ipI h h2 n) (ipI i i2 n) (ipI j j2 n) (ipI k k2 n) (ipI l l2 n)) ∧ Below w.heap.size w w' := by
  cases hok : inB n 0 16
  · go_enter Try.func42, Try.ntmps42
    go_wp2_with (go_at_call 68; refine (l01In_c _ _ _ _).mono ?_; rintro e w' ⟨rfl, rfl⟩)
    all_goals first
      | exact bodyPost_ret (v := patV (ipI a a2 n) (ipI b b2 n) (ipI c c2 n) (ipI d d2 n) (ipI e' e2 n) (ipI f f2 n) (ipI g g2 n) (ipI h h2 n) (ipI i i2 n) (ipI j j2 n) (ipI k k2 n) (ipI l l2 n)) (by simp [results, Try.results42, go_sem, ipI, hok]) rfl ⟨rfl, (by repeat (first | exact Below.refl _ _ | refine Below.drew ?_ | refine Below.alloc ?_ (by first | exact Nat.le_refl _ | (simp; done) | (simp; omega) | omega) _ | refine Below.more ?_ (by first | exact Nat.le_refl _ | (simp; done) | (simp; omega) | omega) _ _ | refine Below.setCell ?_ (by first | exact Nat.le_refl _ | (simp; done) | (simp; omega) | omega) _ | assumption))⟩
      | (exfalso; simp_all; done)
  · go_enter Try.func42, Try.ntmps42
    go_wp2_with (go_at_call 68; refine (l01In_c _ _ _ _).mono ?_; rintro e w' ⟨rfl, rfl⟩)
    all_goals try (exfalso; simp_all; done)
    refine wp_loop_rounds 5 ?_
    rw [rounds_succ]; go_wp2
    ((first | refine region_qt2 13 (by kernel_rfl) (by kernel_rfl) ?_ | refine region_qt 13 (by kernel_rfl) (by kernel_rfl) ?_); simp only [List.take_succ_cons, List.take_zero, List.drop_succ_cons, List.drop_zero])
    repeat (quiet_step (fail))
    (refine wpQuiet_step (fun K hK => ?_); go_simp; refine ⟨_, fun zt => ext_below (spec_Lerp _ _ _ _ _ _ _ _ _), hK _ ?_⟩; clear hK K)
    repeat (quiet_step (fail))
    (refine wpQuiet_nil ?_; intro X nX)
    go_wp2
    rw [rounds_succ]; go_wp2
    ((first | refine region_qt2 13 (by kernel_rfl) (by kernel_rfl) ?_ | refine region_qt 13 (by kernel_rfl) (by kernel_rfl) ?_); simp only [List.take_succ_cons, List.take_zero, List.drop_succ_cons, List.drop_zero])
    repeat (quiet_step (fail))
    (refine wpQuiet_step (fun K hK => ?_); go_simp; refine ⟨_, fun zt => ext_below (spec_Lerp _ _ _ _ _ _ _ _ _), hK _ ?_⟩; clear hK K)
    repeat (quiet_step (fail))
    (refine wpQuiet_nil ?_; intro X nX)
    go_wp2
    rw [rounds_succ]; go_wp2
    ((first | refine region_qt2 13 (by kernel_rfl) (by kernel_rfl) ?_ | refine region_qt 13 (by kernel_rfl) (by kernel_rfl) ?_); simp only [List.take_succ_cons, List.take_zero, List.drop_succ_cons, List.drop_zero])
    repeat (quiet_step (fail))
    (refine wpQuiet_step (fun K hK => ?_); go_simp; refine ⟨_, fun zt => ext_below (spec_Lerp _ _ _ _ _ _ _ _ _), hK _ ?_⟩; clear hK K)
    repeat (quiet_step (fail))
    (refine wpQuiet_nil ?_; intro X nX)
    go_wp2
    rw [rounds_succ]; go_wp2
    ((first | refine region_qt2 13 (by kernel_rfl) (by kernel_rfl) ?_ | refine region_qt 13 (by kernel_rfl) (by kernel_rfl) ?_); simp only [List.take_succ_cons, List.take_zero, List.drop_succ_cons, List.drop_zero])
    repeat (quiet_step (fail))
    (refine wpQuiet_step (fun K hK => ?_); go_simp; refine ⟨_, fun zt => ext_below (spec_Lerp _ _ _ _ _ _ _ _ _), hK _ ?_⟩; clear hK K)
    repeat (quiet_step (fail))
    (refine wpQuiet_nil ?_; intro X nX)
    go_wp2
    rw [rounds_succ]; go_wp2
    exact bodyPost_ret (v := patV (ipI a a2 n) (ipI b b2 n) (ipI c c2 n) (ipI d d2 n) (ipI e' e2 n) (ipI f f2 n) (ipI g g2 n) (ipI h h2 n) (ipI i i2 n) (ipI j j2 n) (ipI k k2 n) (ipI l l2 n)) (by simp [results, Try.results42, go_sem, ipI, hok]) rfl ⟨rfl, (by repeat (first | exact Below.refl _ _ | refine Below.drew ?_ | refine Below.alloc ?_ (by first | exact Nat.le_refl _ | (simp; done) | (simp; omega) | omega) _ | refine Below.more ?_ (by first | exact Nat.le_refl _ | (simp; done) | (simp; omega) | omega) _ _ | refine Below.setCell ?_ (by first | exact Nat.le_refl _ | (simp; done) | (simp; omega) | omega) _ | assumption))⟩
end Go.Proofs.Ytkdkdejgajcneaa
