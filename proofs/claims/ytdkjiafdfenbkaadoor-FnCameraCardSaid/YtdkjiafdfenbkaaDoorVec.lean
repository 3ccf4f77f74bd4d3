/- Contracts of vectors. -/
import Derived.Test.YtdkjiafdfenbkaaDoorVecEach
namespace Go.Proofs.YtdkjiafdfenbkaaDoor
open Go.RowKit
/-- A number is an int64. -/
def In64 (n : Int) : Prop := -9223372036854775808 ≤ n ∧ n ≤ 9223372036854775807
theorem flip_same {P : Program} {f : FuncId} {args : Array Value} {w : World} {v : Value} (h : Calls P f args w fun e w' => e = .returned v ∧ w = w') : Calls P f args w fun e w' => e = .returned v ∧ w' = w :=
  h.mono fun _ _ ⟨a, b⟩ => ⟨a, b.symm⟩
theorem impl_clamped (x y z : Int) (w : World) :
    Calls Tryd.prog 83 #[vecV x y z] w fun e w' => e = .returned (vecV (cc x) (cc y) (cc z)) ∧ Below w.heap.size w w' := by
  go_enter Tryd.func83, Tryd.ntmps83
  go_wp2_with fail
  refine (impl_each 120 #[] x y z (cc x) (cc y) (cc z) _ (fun _ _ => by kernel_rfl) (fun W _ => (clamped1_c x W).mono fun _ _ ⟨h, h'⟩ => ⟨h, h'.symm⟩) (fun W _ => (clamped1_c y W).mono fun _ _ ⟨h, h'⟩ => ⟨h, h'.symm⟩) (fun W _ => (clamped1_c z W).mono fun _ _ ⟨h, h'⟩ => ⟨h, h'.symm⟩)).mono ?_
  rintro e wn ⟨rfl, hbn⟩; obtain ⟨X, nX, rfl⟩ := Below.ext hbn; clear hbn
  go_wp2
  exact bodyPost_ret (v := vecV (cc x) (cc y) (cc z)) (by simp [results, Tryd.results83, go_sem]) rfl ⟨rfl, (by repeat (first | exact Below.refl _ _ | refine Below.drew ?_ | refine Below.alloc ?_ (by first | exact Nat.le_refl _ | (simp; done) | (simp; omega) | omega) _ | refine Below.more ?_ (by first | exact Nat.le_refl _ | (simp; done) | (simp; omega) | omega) _ _ | refine Below.setCell ?_ (by first | exact Nat.le_refl _ | (simp; done) | (simp; omega) | omega) _ | assumption))⟩
/-- All parts are coordinates. -/
def vecOk (x y z : Int) : Bool := inB x (-1000000) 1000000 && inB y (-1000000) 1000000 && inB z (-1000000) 1000000
theorem cc_eq {x : Int} : (x = cc x) ↔ inB x (-1000000) 1000000 = true := by rw [inB_true]; simp only [cc, clampI]; omega
theorem vecOk_eq (x y z : Int) : vecEq x y z (cc x) (cc y) (cc z) = vecOk x y z := by
  rw [Bool.eq_iff_iff, vecEq_iff]
  simp only [vecOk, cc_eq, Bool.and_eq_true, and_assoc]
set_option maxRecDepth 100000 in
theorem impl_IsValidVec (x y z : Int) (w : World) : Calls Tryd.prog 46 #[vecV x y z] w fun e w' => e = .returned (.bool (vecOk x y z)) ∧ Below w.heap.size w w' := by
  go_enter Tryd.func46, Tryd.ntmps46
  go_wp2
  go_region_with (go_at_call 83; refine (impl_clamped _ _ _ _).mono ?_; rintro e wn ⟨rfl, hbn⟩; obtain ⟨X, nX, rfl⟩ := Below.ext hbn; clear hbn)
  all_goals (go_wp2; go_ret; exact ⟨ret_bool (vecOk_eq x y z), (by repeat (first | exact Below.refl _ _ | refine Below.drew ?_ | refine Below.alloc ?_ (by first | exact Nat.le_refl _ | (simp; done) | (simp; omega) | omega) _ | refine Below.more ?_ (by first | exact Nat.le_refl _ | (simp; done) | (simp; omega) | omega) _ _ | refine Below.setCell ?_ (by first | exact Nat.le_refl _ | (simp; done) | (simp; omega) | omega) _ | assumption))⟩)
end Go.Proofs.YtdkjiafdfenbkaaDoor
