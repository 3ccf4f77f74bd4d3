/- Contracts of IsValidPatch. -/
import Derived.Test.YtkdkdejgajcneaaInterp
import Derived.Test.YtkdkdejgajcneaaVec
namespace Go.Proofs.Ytkdkdejgajcneaa
open Go.RowKit
theorem vpx0 (t0 t1 t2 t3 t4 t5 t6 t7 t8 t9 t10 t11 : Int) (w : World) : (Instr.index 28 (patV t0 t1 t2 t3 t4 t5 t6 t7 t8 t9 t10 t11) (.int .i64 0)).run Try.prog w = .ok (.agg #[.int .i64 t0, .int .i64 t1, .int .i64 t2]) w := by kernel_rfl
theorem vpx1 (t0 t1 t2 t3 t4 t5 t6 t7 t8 t9 t10 t11 : Int) (w : World) : (Instr.index 28 (patV t0 t1 t2 t3 t4 t5 t6 t7 t8 t9 t10 t11) (.int .i64 1)).run Try.prog w = .ok (.agg #[.int .i64 t3, .int .i64 t4, .int .i64 t5]) w := by kernel_rfl
theorem vpx2 (t0 t1 t2 t3 t4 t5 t6 t7 t8 t9 t10 t11 : Int) (w : World) : (Instr.index 28 (patV t0 t1 t2 t3 t4 t5 t6 t7 t8 t9 t10 t11) (.int .i64 2)).run Try.prog w = .ok (.agg #[.int .i64 t6, .int .i64 t7, .int .i64 t8]) w := by kernel_rfl
theorem vpx3 (t0 t1 t2 t3 t4 t5 t6 t7 t8 t9 t10 t11 : Int) (w : World) : (Instr.index 28 (patV t0 t1 t2 t3 t4 t5 t6 t7 t8 t9 t10 t11) (.int .i64 3)).run Try.prog w = .ok (.agg #[.int .i64 t9, .int .i64 t10, .int .i64 t11]) w := by kernel_rfl
/-- Are all corners within bounds? -/
def patOk (t0 t1 t2 t3 t4 t5 t6 t7 t8 t9 t10 t11 : Int) : Bool := vecOk t0 t1 t2 && (vecOk t3 t4 t5 && (vecOk t6 t7 t8 && vecOk t9 t10 t11))
set_option maxRecDepth 100000 in
set_option maxHeartbeats 2000000 in
theorem impl_IsValidPatch (t0 t1 t2 t3 t4 t5 t6 t7 t8 t9 t10 t11 : Int) (w : World) :
    Calls Try.prog 64 #[patV t0 t1 t2 t3 t4 t5 t6 t7 t8 t9 t10 t11] w fun e w' => e = .returned (.bool (patOk t0 t1 t2 t3 t4 t5 t6 t7 t8 t9 t10 t11)) ∧ Below w.heap.size w w' := by
  have ix0 := fun w => vpx0 t0 t1 t2 t3 t4 t5 t6 t7 t8 t9 t10 t11 w
  have ix1 := fun w => vpx1 t0 t1 t2 t3 t4 t5 t6 t7 t8 t9 t10 t11 w
  have ix2 := fun w => vpx2 t0 t1 t2 t3 t4 t5 t6 t7 t8 t9 t10 t11 w
  have ix3 := fun w => vpx3 t0 t1 t2 t3 t4 t5 t6 t7 t8 t9 t10 t11 w
  cases h0 : vecOk t0 t1 t2
  · go_enter Try.func64, Try.ntmps64
    go_wp2
    refine wp_loop_rounds 6 ?_
    rw [rounds_succ]
    go_wp2_with fail
    refine (impl_IsValidVec _ _ _ _).mono ?_
    rw [h0]
    rintro e wn ⟨rfl, hbn⟩; obtain ⟨X, nX, rfl⟩ := Below.ext hbn; clear hbn
    go_wp2
    go_ret
    exact ⟨by simp [patOk, h0], (by repeat (first | exact Below.refl _ _ | refine Below.drew ?_ | refine Below.alloc ?_ (by first | exact Nat.le_refl _ | (simp; done) | (simp; omega) | omega) _ | refine Below.more ?_ (by first | exact Nat.le_refl _ | (simp; done) | (simp; omega) | omega) _ _ | refine Below.setCell ?_ (by first | exact Nat.le_refl _ | (simp; done) | (simp; omega) | omega) _ | assumption))⟩
  · skip
    cases h1 : vecOk t3 t4 t5
    · go_enter Try.func64, Try.ntmps64
      go_wp2
      refine wp_loop_rounds 6 ?_
      rw [rounds_succ]
      go_wp2_with fail
      refine (impl_IsValidVec _ _ _ _).mono ?_
      rw [h0]
      rintro e wn ⟨rfl, hbn⟩; obtain ⟨X, nX, rfl⟩ := Below.ext hbn; clear hbn
      go_wp2
      rw [rounds_succ]
      go_wp2_with fail
      refine (impl_IsValidVec _ _ _ _).mono ?_
      rw [h1]
      rintro e wn ⟨rfl, hbn⟩; obtain ⟨X, nX, rfl⟩ := Below.ext hbn; clear hbn
      go_wp2
      go_ret
      exact ⟨by simp [patOk, h0, h1], (by repeat (first | exact Below.refl _ _ | refine Below.drew ?_ | refine Below.alloc ?_ (by first | exact Nat.le_refl _ | (simp; done) | (simp; omega) | omega) _ | refine Below.more ?_ (by first | exact Nat.le_refl _ | (simp; done) | (simp; omega) | omega) _ _ | refine Below.setCell ?_ (by first | exact Nat.le_refl _ | (simp; done) | (simp; omega) | omega) _ | assumption))⟩
    · skip
      cases h2 : vecOk t6 t7 t8
      · go_enter Try.func64, Try.ntmps64
        go_wp2
        refine wp_loop_rounds 6 ?_
        rw [rounds_succ]
        go_wp2_with fail
        refine (impl_IsValidVec _ _ _ _).mono ?_
        rw [h0]
        rintro e wn ⟨rfl, hbn⟩; obtain ⟨X, nX, rfl⟩ := Below.ext hbn; clear hbn
        go_wp2
        rw [rounds_succ]
        go_wp2_with fail
        refine (impl_IsValidVec _ _ _ _).mono ?_
        rw [h1]
        rintro e wn ⟨rfl, hbn⟩; obtain ⟨X, nX, rfl⟩ := Below.ext hbn; clear hbn
        go_wp2
        rw [rounds_succ]
        go_wp2_with fail
        refine (impl_IsValidVec _ _ _ _).mono ?_
        rw [h2]
        rintro e wn ⟨rfl, hbn⟩; obtain ⟨X, nX, rfl⟩ := Below.ext hbn; clear hbn
        go_wp2
        go_ret
        exact ⟨by simp [patOk, h0, h1, h2], (by repeat (first | exact Below.refl _ _ | refine Below.drew ?_ | refine Below.alloc ?_ (by first | exact Nat.le_refl _ | (simp; done) | (simp; omega) | omega) _ | refine Below.more ?_ (by first | exact Nat.le_refl _ | (simp; done) | (simp; omega) | omega) _ _ | refine Below.setCell ?_ (by first | exact Nat.le_refl _ | (simp; done) | (simp; omega) | omega) _ | assumption))⟩
      · skip
        cases h3 : vecOk t9 t10 t11
        · go_enter Try.func64, Try.ntmps64
          go_wp2
          refine wp_loop_rounds 6 ?_
          rw [rounds_succ]
          go_wp2_with fail
          refine (impl_IsValidVec _ _ _ _).mono ?_
          rw [h0]
          rintro e wn ⟨rfl, hbn⟩; obtain ⟨X, nX, rfl⟩ := Below.ext hbn; clear hbn
          go_wp2
          rw [rounds_succ]
          go_wp2_with fail
          refine (impl_IsValidVec _ _ _ _).mono ?_
          rw [h1]
          rintro e wn ⟨rfl, hbn⟩; obtain ⟨X, nX, rfl⟩ := Below.ext hbn; clear hbn
          go_wp2
          rw [rounds_succ]
          go_wp2_with fail
          refine (impl_IsValidVec _ _ _ _).mono ?_
          rw [h2]
          rintro e wn ⟨rfl, hbn⟩; obtain ⟨X, nX, rfl⟩ := Below.ext hbn; clear hbn
          go_wp2
          rw [rounds_succ]
          go_wp2_with fail
          refine (impl_IsValidVec _ _ _ _).mono ?_
          rw [h3]
          rintro e wn ⟨rfl, hbn⟩; obtain ⟨X, nX, rfl⟩ := Below.ext hbn; clear hbn
          go_wp2
          go_ret
          exact ⟨by simp [patOk, h0, h1, h2, h3], (by repeat (first | exact Below.refl _ _ | refine Below.drew ?_ | refine Below.alloc ?_ (by first | exact Nat.le_refl _ | (simp; done) | (simp; omega) | omega) _ | refine Below.more ?_ (by first | exact Nat.le_refl _ | (simp; done) | (simp; omega) | omega) _ _ | refine Below.setCell ?_ (by first | exact Nat.le_refl _ | (simp; done) | (simp; omega) | omega) _ | assumption))⟩
        · go_enter Try.func64, Try.ntmps64
          go_wp2
          refine wp_loop_rounds 6 ?_
          rw [rounds_succ]
          go_wp2_with fail
          refine (impl_IsValidVec _ _ _ _).mono ?_
          rw [h0]
          rintro e wn ⟨rfl, hbn⟩; obtain ⟨X, nX, rfl⟩ := Below.ext hbn; clear hbn
          go_wp2
          rw [rounds_succ]
          go_wp2_with fail
          refine (impl_IsValidVec _ _ _ _).mono ?_
          rw [h1]
          rintro e wn ⟨rfl, hbn⟩; obtain ⟨X, nX, rfl⟩ := Below.ext hbn; clear hbn
          go_wp2
          rw [rounds_succ]
          go_wp2_with fail
          refine (impl_IsValidVec _ _ _ _).mono ?_
          rw [h2]
          rintro e wn ⟨rfl, hbn⟩; obtain ⟨X, nX, rfl⟩ := Below.ext hbn; clear hbn
          go_wp2
          rw [rounds_succ]
          go_wp2_with fail
          refine (impl_IsValidVec _ _ _ _).mono ?_
          rw [h3]
          rintro e wn ⟨rfl, hbn⟩; obtain ⟨X, nX, rfl⟩ := Below.ext hbn; clear hbn
          go_wp2
          rw [rounds_succ]
          go_wp2
          go_ret
          exact ⟨by simp [patOk, h0, h1, h2, h3], (by repeat (first | exact Below.refl _ _ | refine Below.drew ?_ | refine Below.alloc ?_ (by first | exact Nat.le_refl _ | (simp; done) | (simp; omega) | omega) _ | refine Below.more ?_ (by first | exact Nat.le_refl _ | (simp; done) | (simp; omega) | omega) _ _ | refine Below.setCell ?_ (by first | exact Nat.le_refl _ | (simp; done) | (simp; omega) | omega) _ | assumption))⟩
set_option maxRecDepth 100000 in
set_option maxHeartbeats 2000000 in
theorem spec_IsValidPatch (t0 t1 t2 t3 t4 t5 t6 t7 t8 t9 t10 t11 : Int) (w : World) :
    Calls Try.prog 67 #[patV t0 t1 t2 t3 t4 t5 t6 t7 t8 t9 t10 t11] w fun e w' => e = .returned (.bool (patOk t0 t1 t2 t3 t4 t5 t6 t7 t8 t9 t10 t11)) ∧ Below w.heap.size w w' := by
  have ix0 := fun w => vpx0 t0 t1 t2 t3 t4 t5 t6 t7 t8 t9 t10 t11 w
  have ix1 := fun w => vpx1 t0 t1 t2 t3 t4 t5 t6 t7 t8 t9 t10 t11 w
  have ix2 := fun w => vpx2 t0 t1 t2 t3 t4 t5 t6 t7 t8 t9 t10 t11 w
  have ix3 := fun w => vpx3 t0 t1 t2 t3 t4 t5 t6 t7 t8 t9 t10 t11 w
  cases h0 : vecOk t0 t1 t2
  · go_enter Try.func67, Try.ntmps67
    go_wp2
    refine wp_loop_rounds 6 ?_
    rw [rounds_succ]
    go_wp2_with fail
    refine (spec_IsValidVec _ _ _ _).mono ?_
    rw [h0]
    rintro e wn ⟨rfl, hbn⟩; obtain ⟨X, nX, rfl⟩ := Below.ext hbn; clear hbn
    go_wp2
    go_ret
    exact ⟨by simp [patOk, h0], (by repeat (first | exact Below.refl _ _ | refine Below.drew ?_ | refine Below.alloc ?_ (by first | exact Nat.le_refl _ | (simp; done) | (simp; omega) | omega) _ | refine Below.more ?_ (by first | exact Nat.le_refl _ | (simp; done) | (simp; omega) | omega) _ _ | refine Below.setCell ?_ (by first | exact Nat.le_refl _ | (simp; done) | (simp; omega) | omega) _ | assumption))⟩
  · skip
    cases h1 : vecOk t3 t4 t5
    · go_enter Try.func67, Try.ntmps67
      go_wp2
      refine wp_loop_rounds 6 ?_
      rw [rounds_succ]
      go_wp2_with fail
      refine (spec_IsValidVec _ _ _ _).mono ?_
      rw [h0]
      rintro e wn ⟨rfl, hbn⟩; obtain ⟨X, nX, rfl⟩ := Below.ext hbn; clear hbn
      go_wp2
      rw [rounds_succ]
      go_wp2_with fail
      refine (spec_IsValidVec _ _ _ _).mono ?_
      rw [h1]
      rintro e wn ⟨rfl, hbn⟩; obtain ⟨X, nX, rfl⟩ := Below.ext hbn; clear hbn
      go_wp2
      go_ret
      exact ⟨by simp [patOk, h0, h1], (by repeat (first | exact Below.refl _ _ | refine Below.drew ?_ | refine Below.alloc ?_ (by first | exact Nat.le_refl _ | (simp; done) | (simp; omega) | omega) _ | refine Below.more ?_ (by first | exact Nat.le_refl _ | (simp; done) | (simp; omega) | omega) _ _ | refine Below.setCell ?_ (by first | exact Nat.le_refl _ | (simp; done) | (simp; omega) | omega) _ | assumption))⟩
    · skip
      cases h2 : vecOk t6 t7 t8
      · go_enter Try.func67, Try.ntmps67
        go_wp2
        refine wp_loop_rounds 6 ?_
        rw [rounds_succ]
        go_wp2_with fail
        refine (spec_IsValidVec _ _ _ _).mono ?_
        rw [h0]
        rintro e wn ⟨rfl, hbn⟩; obtain ⟨X, nX, rfl⟩ := Below.ext hbn; clear hbn
        go_wp2
        rw [rounds_succ]
        go_wp2_with fail
        refine (spec_IsValidVec _ _ _ _).mono ?_
        rw [h1]
        rintro e wn ⟨rfl, hbn⟩; obtain ⟨X, nX, rfl⟩ := Below.ext hbn; clear hbn
        go_wp2
        rw [rounds_succ]
        go_wp2_with fail
        refine (spec_IsValidVec _ _ _ _).mono ?_
        rw [h2]
        rintro e wn ⟨rfl, hbn⟩; obtain ⟨X, nX, rfl⟩ := Below.ext hbn; clear hbn
        go_wp2
        go_ret
        exact ⟨by simp [patOk, h0, h1, h2], (by repeat (first | exact Below.refl _ _ | refine Below.drew ?_ | refine Below.alloc ?_ (by first | exact Nat.le_refl _ | (simp; done) | (simp; omega) | omega) _ | refine Below.more ?_ (by first | exact Nat.le_refl _ | (simp; done) | (simp; omega) | omega) _ _ | refine Below.setCell ?_ (by first | exact Nat.le_refl _ | (simp; done) | (simp; omega) | omega) _ | assumption))⟩
      · skip
        cases h3 : vecOk t9 t10 t11
        · go_enter Try.func67, Try.ntmps67
          go_wp2
          refine wp_loop_rounds 6 ?_
          rw [rounds_succ]
          go_wp2_with fail
          refine (spec_IsValidVec _ _ _ _).mono ?_
          rw [h0]
          rintro e wn ⟨rfl, hbn⟩; obtain ⟨X, nX, rfl⟩ := Below.ext hbn; clear hbn
          go_wp2
          rw [rounds_succ]
          go_wp2_with fail
          refine (spec_IsValidVec _ _ _ _).mono ?_
          rw [h1]
          rintro e wn ⟨rfl, hbn⟩; obtain ⟨X, nX, rfl⟩ := Below.ext hbn; clear hbn
          go_wp2
          rw [rounds_succ]
          go_wp2_with fail
          refine (spec_IsValidVec _ _ _ _).mono ?_
          rw [h2]
          rintro e wn ⟨rfl, hbn⟩; obtain ⟨X, nX, rfl⟩ := Below.ext hbn; clear hbn
          go_wp2
          rw [rounds_succ]
          go_wp2_with fail
          refine (spec_IsValidVec _ _ _ _).mono ?_
          rw [h3]
          rintro e wn ⟨rfl, hbn⟩; obtain ⟨X, nX, rfl⟩ := Below.ext hbn; clear hbn
          go_wp2
          go_ret
          exact ⟨by simp [patOk, h0, h1, h2, h3], (by repeat (first | exact Below.refl _ _ | refine Below.drew ?_ | refine Below.alloc ?_ (by first | exact Nat.le_refl _ | (simp; done) | (simp; omega) | omega) _ | refine Below.more ?_ (by first | exact Nat.le_refl _ | (simp; done) | (simp; omega) | omega) _ _ | refine Below.setCell ?_ (by first | exact Nat.le_refl _ | (simp; done) | (simp; omega) | omega) _ | assumption))⟩
        · go_enter Try.func67, Try.ntmps67
          go_wp2
          refine wp_loop_rounds 6 ?_
          rw [rounds_succ]
          go_wp2_with fail
          refine (spec_IsValidVec _ _ _ _).mono ?_
          rw [h0]
          rintro e wn ⟨rfl, hbn⟩; obtain ⟨X, nX, rfl⟩ := Below.ext hbn; clear hbn
          go_wp2
          rw [rounds_succ]
          go_wp2_with fail
          refine (spec_IsValidVec _ _ _ _).mono ?_
          rw [h1]
          rintro e wn ⟨rfl, hbn⟩; obtain ⟨X, nX, rfl⟩ := Below.ext hbn; clear hbn
          go_wp2
          rw [rounds_succ]
          go_wp2_with fail
          refine (spec_IsValidVec _ _ _ _).mono ?_
          rw [h2]
          rintro e wn ⟨rfl, hbn⟩; obtain ⟨X, nX, rfl⟩ := Below.ext hbn; clear hbn
          go_wp2
          rw [rounds_succ]
          go_wp2_with fail
          refine (spec_IsValidVec _ _ _ _).mono ?_
          rw [h3]
          rintro e wn ⟨rfl, hbn⟩; obtain ⟨X, nX, rfl⟩ := Below.ext hbn; clear hbn
          go_wp2
          rw [rounds_succ]
          go_wp2
          go_ret
          exact ⟨by simp [patOk, h0, h1, h2, h3], (by repeat (first | exact Below.refl _ _ | refine Below.drew ?_ | refine Below.alloc ?_ (by first | exact Nat.le_refl _ | (simp; done) | (simp; omega) | omega) _ | refine Below.more ?_ (by first | exact Nat.le_refl _ | (simp; done) | (simp; omega) | omega) _ _ | refine Below.setCell ?_ (by first | exact Nat.le_refl _ | (simp; done) | (simp; omega) | omega) _ | assumption))⟩
end Go.Proofs.Ytkdkdejgajcneaa
