/- Contracts of validNode and l13Node. -/
import Derived.Test.YtdkjiafdfenbkaaDoorArgsIn
import Derived.Test.YtdkjiafdfenbkaaDoorIdent
import Derived.Test.YtdkjiafdfenbkaaDoorNodes
namespace Go.Proofs.YtdkjiafdfenbkaaDoor
open Go.RowKit
/-- The fields of a node fit its operation. -/
def named (o : Int) : Prop := o = 2 ∨ o = 8
instance (o : Int) : Decidable (named o) := by unfold named; infer_instance
theorem ident_ne {s : ByteArray} (h : identB s = true) : s.toList ≠ [] := fun he => by
  rw [ByteArray.toList_eq] at he
  have h0 : s.size = 0 := by
    obtain ⟨⟨x⟩⟩ := s
    have : x = [] := by simpa using he
    subst this; rfl
  simp [identB, inB, h0] at h
noncomputable def fieldsOk (x : NodeD) : Bool :=
  (if named x.f0 then identB x.f1 else x.f1.toList.isEmpty) && (if x.f0 = 1 then inB x.f2 0 2559999 else x.f2 == 0) &&
    (if x.f0 = 1 ∨ x.f0 = 2 then ((x.f3.length : Int) == 0) else if x.f0 = 3 then ((x.f3.length : Int) == 1) else if x.f0 = 8 then decide ((x.f3.length : Int) ≤ 3) else (decide (4 ≤ x.f0 ∧ x.f0 ≤ 7) && ((x.f3.length : Int) == 2)))
set_option maxRecDepth 100000 in
set_option maxHeartbeats 4000000 in
theorem validNode_c (x : NodeD) (a : Option Addr) (c : Nat) (w : World) :
    Calls Tryd.prog 107 #[.agg ⟨x.cells a c⟩] w fun e w' => e = .returned (.bool (fieldsOk x)) ∧ Below w.heap.size w w' := by
  obtain ⟨f0, f1, f2, f3⟩ := x
  generalize hf : fieldsOk ⟨f0, f1, f2, f3⟩ = r
  have HF := Lib.hid hf
  clear hf
  dsimp only [NodeD.cells]
  generalize hm : f3.length = m
  have HM := Lib.hid hm
  have HI := Lib.hid (fun h : identB f1 = true => ident_ne h)
  clear hm
  by_cases o1 : f0 = 1
  case pos =>
    subst o1
    go_enter Tryd.func107, Tryd.ntmps107
    go_wp2_with (first | (go_at_call 109; refine (impl_IsIdentifier_c _ _).mono ?_; rintro e wn ⟨rfl, hbn⟩; obtain ⟨X, nX, rfl⟩ := Below.ext hbn; clear hbn) | (go_at_call 47; refine (within_c _ _ _ _).mono ?_; rintro e w' ⟨rfl, rfl⟩))
    all_goals (go_ret; refine ⟨ret_bool ?_, (by repeat (first | exact Below.refl _ _ | refine Below.drew ?_ | refine Below.alloc ?_ (by first | exact Nat.le_refl _ | (simp; done) | (simp; omega) | omega) _ | refine Below.more ?_ (by first | exact Nat.le_refl _ | (simp; done) | (simp; omega) | omega) _ _ | refine Below.setCell ?_ (by first | exact Nat.le_refl _ | (simp; done) | (simp; omega) | omega) _ | assumption))⟩; rw [← HF.out]; have hI := HI.out; simp_all [fieldsOk, named, HM.out])
  by_cases o2 : f0 = 2
  case pos =>
    subst o2
    go_enter Tryd.func107, Tryd.ntmps107
    go_wp2_with (first | (go_at_call 109; refine (impl_IsIdentifier_c _ _).mono ?_; rintro e wn ⟨rfl, hbn⟩; obtain ⟨X, nX, rfl⟩ := Below.ext hbn; clear hbn) | (go_at_call 47; refine (within_c _ _ _ _).mono ?_; rintro e w' ⟨rfl, rfl⟩))
    all_goals (go_ret; refine ⟨ret_bool ?_, (by repeat (first | exact Below.refl _ _ | refine Below.drew ?_ | refine Below.alloc ?_ (by first | exact Nat.le_refl _ | (simp; done) | (simp; omega) | omega) _ | refine Below.more ?_ (by first | exact Nat.le_refl _ | (simp; done) | (simp; omega) | omega) _ _ | refine Below.setCell ?_ (by first | exact Nat.le_refl _ | (simp; done) | (simp; omega) | omega) _ | assumption))⟩; rw [← HF.out]; have hI := HI.out; simp_all [fieldsOk, named, HM.out])
  by_cases o3 : f0 = 3
  case pos =>
    subst o3
    go_enter Tryd.func107, Tryd.ntmps107
    go_wp2_with (first | (go_at_call 109; refine (impl_IsIdentifier_c _ _).mono ?_; rintro e wn ⟨rfl, hbn⟩; obtain ⟨X, nX, rfl⟩ := Below.ext hbn; clear hbn) | (go_at_call 47; refine (within_c _ _ _ _).mono ?_; rintro e w' ⟨rfl, rfl⟩))
    all_goals (go_ret; refine ⟨ret_bool ?_, (by repeat (first | exact Below.refl _ _ | refine Below.drew ?_ | refine Below.alloc ?_ (by first | exact Nat.le_refl _ | (simp; done) | (simp; omega) | omega) _ | refine Below.more ?_ (by first | exact Nat.le_refl _ | (simp; done) | (simp; omega) | omega) _ _ | refine Below.setCell ?_ (by first | exact Nat.le_refl _ | (simp; done) | (simp; omega) | omega) _ | assumption))⟩; rw [← HF.out]; have hI := HI.out; simp_all [fieldsOk, named, HM.out])
  by_cases o4 : f0 = 4
  case pos =>
    subst o4
    go_enter Tryd.func107, Tryd.ntmps107
    go_wp2_with (first | (go_at_call 109; refine (impl_IsIdentifier_c _ _).mono ?_; rintro e wn ⟨rfl, hbn⟩; obtain ⟨X, nX, rfl⟩ := Below.ext hbn; clear hbn) | (go_at_call 47; refine (within_c _ _ _ _).mono ?_; rintro e w' ⟨rfl, rfl⟩))
    all_goals (go_ret; refine ⟨ret_bool ?_, (by repeat (first | exact Below.refl _ _ | refine Below.drew ?_ | refine Below.alloc ?_ (by first | exact Nat.le_refl _ | (simp; done) | (simp; omega) | omega) _ | refine Below.more ?_ (by first | exact Nat.le_refl _ | (simp; done) | (simp; omega) | omega) _ _ | refine Below.setCell ?_ (by first | exact Nat.le_refl _ | (simp; done) | (simp; omega) | omega) _ | assumption))⟩; rw [← HF.out]; have hI := HI.out; simp_all [fieldsOk, named, HM.out])
  by_cases o5 : f0 = 5
  case pos =>
    subst o5
    go_enter Tryd.func107, Tryd.ntmps107
    go_wp2_with (first | (go_at_call 109; refine (impl_IsIdentifier_c _ _).mono ?_; rintro e wn ⟨rfl, hbn⟩; obtain ⟨X, nX, rfl⟩ := Below.ext hbn; clear hbn) | (go_at_call 47; refine (within_c _ _ _ _).mono ?_; rintro e w' ⟨rfl, rfl⟩))
    all_goals (go_ret; refine ⟨ret_bool ?_, (by repeat (first | exact Below.refl _ _ | refine Below.drew ?_ | refine Below.alloc ?_ (by first | exact Nat.le_refl _ | (simp; done) | (simp; omega) | omega) _ | refine Below.more ?_ (by first | exact Nat.le_refl _ | (simp; done) | (simp; omega) | omega) _ _ | refine Below.setCell ?_ (by first | exact Nat.le_refl _ | (simp; done) | (simp; omega) | omega) _ | assumption))⟩; rw [← HF.out]; have hI := HI.out; simp_all [fieldsOk, named, HM.out])
  by_cases o6 : f0 = 6
  case pos =>
    subst o6
    go_enter Tryd.func107, Tryd.ntmps107
    go_wp2_with (first | (go_at_call 109; refine (impl_IsIdentifier_c _ _).mono ?_; rintro e wn ⟨rfl, hbn⟩; obtain ⟨X, nX, rfl⟩ := Below.ext hbn; clear hbn) | (go_at_call 47; refine (within_c _ _ _ _).mono ?_; rintro e w' ⟨rfl, rfl⟩))
    all_goals (go_ret; refine ⟨ret_bool ?_, (by repeat (first | exact Below.refl _ _ | refine Below.drew ?_ | refine Below.alloc ?_ (by first | exact Nat.le_refl _ | (simp; done) | (simp; omega) | omega) _ | refine Below.more ?_ (by first | exact Nat.le_refl _ | (simp; done) | (simp; omega) | omega) _ _ | refine Below.setCell ?_ (by first | exact Nat.le_refl _ | (simp; done) | (simp; omega) | omega) _ | assumption))⟩; rw [← HF.out]; have hI := HI.out; simp_all [fieldsOk, named, HM.out])
  by_cases o7 : f0 = 7
  case pos =>
    subst o7
    go_enter Tryd.func107, Tryd.ntmps107
    go_wp2_with (first | (go_at_call 109; refine (impl_IsIdentifier_c _ _).mono ?_; rintro e wn ⟨rfl, hbn⟩; obtain ⟨X, nX, rfl⟩ := Below.ext hbn; clear hbn) | (go_at_call 47; refine (within_c _ _ _ _).mono ?_; rintro e w' ⟨rfl, rfl⟩))
    all_goals (go_ret; refine ⟨ret_bool ?_, (by repeat (first | exact Below.refl _ _ | refine Below.drew ?_ | refine Below.alloc ?_ (by first | exact Nat.le_refl _ | (simp; done) | (simp; omega) | omega) _ | refine Below.more ?_ (by first | exact Nat.le_refl _ | (simp; done) | (simp; omega) | omega) _ _ | refine Below.setCell ?_ (by first | exact Nat.le_refl _ | (simp; done) | (simp; omega) | omega) _ | assumption))⟩; rw [← HF.out]; have hI := HI.out; simp_all [fieldsOk, named, HM.out])
  by_cases o8 : f0 = 8
  case pos =>
    subst o8
    go_enter Tryd.func107, Tryd.ntmps107
    go_wp2_with (first | (go_at_call 109; refine (impl_IsIdentifier_c _ _).mono ?_; rintro e wn ⟨rfl, hbn⟩; obtain ⟨X, nX, rfl⟩ := Below.ext hbn; clear hbn) | (go_at_call 47; refine (within_c _ _ _ _).mono ?_; rintro e w' ⟨rfl, rfl⟩))
    all_goals (go_ret; refine ⟨ret_bool ?_, (by repeat (first | exact Below.refl _ _ | refine Below.drew ?_ | refine Below.alloc ?_ (by first | exact Nat.le_refl _ | (simp; done) | (simp; omega) | omega) _ | refine Below.more ?_ (by first | exact Nat.le_refl _ | (simp; done) | (simp; omega) | omega) _ _ | refine Below.setCell ?_ (by first | exact Nat.le_refl _ | (simp; done) | (simp; omega) | omega) _ | assumption))⟩; rw [← HF.out]; have hI := HI.out; simp_all [fieldsOk, named, HM.out])
  have q1 : (f0 == 1) = false := by simpa using o1
  have q2 : (f0 == 2) = false := by simpa using o2
  have q3 : (f0 == 3) = false := by simpa using o3
  have q4 : (f0 == 4) = false := by simpa using o4
  have q5 : (f0 == 5) = false := by simpa using o5
  have q6 : (f0 == 6) = false := by simpa using o6
  have q7 : (f0 == 7) = false := by simpa using o7
  have q8 : (f0 == 8) = false := by simpa using o8
  go_enter Tryd.func107, Tryd.ntmps107
  go_wp2_with (first | (go_at_call 109; refine (impl_IsIdentifier_c _ _).mono ?_; rintro e wn ⟨rfl, hbn⟩; obtain ⟨X, nX, rfl⟩ := Below.ext hbn; clear hbn) | (go_at_call 47; refine (within_c _ _ _ _).mono ?_; rintro e w' ⟨rfl, rfl⟩))
  all_goals (go_ret; refine ⟨ret_bool ?_, (by repeat (first | exact Below.refl _ _ | refine Below.drew ?_ | refine Below.alloc ?_ (by first | exact Nat.le_refl _ | (simp; done) | (simp; omega) | omega) _ | refine Below.more ?_ (by first | exact Nat.le_refl _ | (simp; done) | (simp; omega) | omega) _ _ | refine Below.setCell ?_ (by first | exact Nat.le_refl _ | (simp; done) | (simp; omega) | omega) _ | assumption))⟩; rw [← HF.out]; have hI := HI.out; simp_all [fieldsOk, named, HM.out]; try omega)
set_option maxRecDepth 100000 in
set_option maxHeartbeats 4000000 in
theorem l13Node_c (x : NodeD) (a : Option Addr) (c : Nat) (i : Nat) (w : World) (hr : Sl w a 1 x.f3.length (intAt x.f3)) (hn : x.f3.length ≤ 1048576) (hi : i ≤ 1048576) (hs : x.f1.size ≤ 1048576) :
    Calls Tryd.prog 102 #[.agg ⟨x.cells a c⟩, .int .i64 i] w fun e w' => e = .returned (.bool (argsInB x.f3 0 ((i : Int) - 1) && fieldsOk x)) ∧ Below w.heap.size w w' := by
  obtain ⟨f0, f1, f2, l⟩ := x
  dsimp only at hr hn hs
  have HR := Lib.hid hr
  clear hr
  generalize hf : fieldsOk ⟨f0, f1, f2, l⟩ = r
  have HF := Lib.hid hf
  clear hf
  dsimp only [NodeD.cells]
  generalize hm : l.length = n at *
  have HN := Lib.hid hm
  clear hm
  have HI := Lib.hid (fun h : identB f1 = true => ident_ne h)
  have hwrap : IntKind.i64.wrap ((i : Int) - 1) = (i : Int) - 1 := IntWalk.i64_in _ (by omega)
  go_enter Tryd.func102, Tryd.ntmps102
  go_wp2
  go_loopw [11] (fun j wr => ∃ (k : Nat), k ≤ n ∧ j = .int .i64 k ∧ Hid (∀ j, j < k → 0 ≤ l.getD j 0 ∧ l.getD j 0 ≤ (i : Int) - 1) ∧ wr = w.alloc (.cells #[.int .i64 f0, .string f1, .int .i64 f2, .slice a n c] 156)) (fun j _ => n - (intOf j).toNat)
  case atStart => exact ⟨0, by omega, rfl, Lib.hid fun j hj => by omega, rfl⟩
  case round =>
    obtain ⟨k, hk, rfl, HALL, rfl⟩ := hrel
    by_cases hlt : k < n
    · have hk1 : (k : Int) < (n : Int) := by omega
      obtain ⟨b, o, rfl, hb, hc⟩ := HR.out (by omega)
      have c0 : w.cell? ⟨b, o + k, none⟩ = some (.int .i64 (l.getD k 0)) := by
        have := hc k hlt 0 (by omega)
        rw [Nat.mul_one, Nat.add_zero] at this
        rw [this]; simp [intAt]
      clear hc
      have HNO := Lib.hid (fun h => argsInB_no (l := l) (lo := 0) (hi := (i : Int) - 1) (k := k) (by rw [HN.out]; exact hlt) h)
      have HYES := Lib.hid (show inB (l.getD k 0) 0 ((i : Int) - 1) = true → ∀ j, j < k + 1 → 0 ≤ l.getD j 0 ∧ l.getD j 0 ≤ (i : Int) - 1 from fun h j hj => by
        by_cases hjk : j = k
        · subst hjk; exact inB_true.1 h
        · exact HALL.out j (by omega))
      generalize l.getD k 0 = x at *
      cases hin : inB x 0 ((i : Int) - 1)
      · go_wp2_with (go_at_call 52; refine (l01In_c _ _ _ _).mono ?_; rw [hin]; rintro e w' ⟨rfl, rfl⟩)
        go_ret
        exact ⟨ret_bool (by rw [HNO.out hin]; rfl), (by repeat (first | exact Below.refl _ _ | refine Below.drew ?_ | refine Below.alloc ?_ (by first | exact Nat.le_refl _ | (simp; done) | (simp; omega) | omega) _ | refine Below.more ?_ (by first | exact Nat.le_refl _ | (simp; done) | (simp; omega) | omega) _ _ | refine Below.setCell ?_ (by first | exact Nat.le_refl _ | (simp; done) | (simp; omega) | omega) _ | assumption))⟩
      · go_wp2_with (go_at_call 52; refine (l01In_c _ _ _ _).mono ?_; rw [hin]; rintro e w' ⟨rfl, rfl⟩)
        refine ⟨⟨k + 1, by omega, rfl, Lib.hid (fun j hj => by have := HYES.out hin j hj; omega), by first | rfl | trivial⟩, by simp only [intOf]; omega⟩
    · have hk1 : ¬ (k : Int) < (n : Int) := by omega
      have HE := Lib.hid (argsInB_all (l := l) (lo := 0) (hi := (i : Int) - 1) fun j hj => HALL.out j (by rw [HN.out] at hj; omega))
      clear HALL
      by_cases o1 : f0 = 1
      case pos =>
        subst o1
        go_wp2_with (first | (go_at_call 103; refine (spec_IsIdentifier_c _ _ (by omega)).mono ?_; rintro e wn ⟨rfl, hbn⟩; obtain ⟨X, nX, rfl⟩ := Below.ext hbn; clear hbn) | (go_at_call 52; refine (l01In_c _ _ _ _).mono ?_; rintro e w' ⟨rfl, rfl⟩))
        all_goals (go_ret; refine ⟨ret_bool ?_, (by repeat (first | exact Below.refl _ _ | refine Below.drew ?_ | refine Below.alloc ?_ (by first | exact Nat.le_refl _ | (simp; done) | (simp; omega) | omega) _ | refine Below.more ?_ (by first | exact Nat.le_refl _ | (simp; done) | (simp; omega) | omega) _ _ | refine Below.setCell ?_ (by first | exact Nat.le_refl _ | (simp; done) | (simp; omega) | omega) _ | assumption))⟩; rw [HE.out, ← HF.out]; have hI := HI.out; simp_all [fieldsOk, named, HN.out])
      by_cases o2 : f0 = 2
      case pos =>
        subst o2
        go_wp2_with (first | (go_at_call 103; refine (spec_IsIdentifier_c _ _ (by omega)).mono ?_; rintro e wn ⟨rfl, hbn⟩; obtain ⟨X, nX, rfl⟩ := Below.ext hbn; clear hbn) | (go_at_call 52; refine (l01In_c _ _ _ _).mono ?_; rintro e w' ⟨rfl, rfl⟩))
        all_goals (go_ret; refine ⟨ret_bool ?_, (by repeat (first | exact Below.refl _ _ | refine Below.drew ?_ | refine Below.alloc ?_ (by first | exact Nat.le_refl _ | (simp; done) | (simp; omega) | omega) _ | refine Below.more ?_ (by first | exact Nat.le_refl _ | (simp; done) | (simp; omega) | omega) _ _ | refine Below.setCell ?_ (by first | exact Nat.le_refl _ | (simp; done) | (simp; omega) | omega) _ | assumption))⟩; rw [HE.out, ← HF.out]; have hI := HI.out; simp_all [fieldsOk, named, HN.out])
      by_cases o3 : f0 = 3
      case pos =>
        subst o3
        go_wp2_with (first | (go_at_call 103; refine (spec_IsIdentifier_c _ _ (by omega)).mono ?_; rintro e wn ⟨rfl, hbn⟩; obtain ⟨X, nX, rfl⟩ := Below.ext hbn; clear hbn) | (go_at_call 52; refine (l01In_c _ _ _ _).mono ?_; rintro e w' ⟨rfl, rfl⟩))
        all_goals (go_ret; refine ⟨ret_bool ?_, (by repeat (first | exact Below.refl _ _ | refine Below.drew ?_ | refine Below.alloc ?_ (by first | exact Nat.le_refl _ | (simp; done) | (simp; omega) | omega) _ | refine Below.more ?_ (by first | exact Nat.le_refl _ | (simp; done) | (simp; omega) | omega) _ _ | refine Below.setCell ?_ (by first | exact Nat.le_refl _ | (simp; done) | (simp; omega) | omega) _ | assumption))⟩; rw [HE.out, ← HF.out]; have hI := HI.out; simp_all [fieldsOk, named, HN.out])
      by_cases o8 : f0 = 8
      case pos =>
        subst o8
        go_wp2_with (first | (go_at_call 103; refine (spec_IsIdentifier_c _ _ (by omega)).mono ?_; rintro e wn ⟨rfl, hbn⟩; obtain ⟨X, nX, rfl⟩ := Below.ext hbn; clear hbn) | (go_at_call 52; refine (l01In_c _ _ _ _).mono ?_; rintro e w' ⟨rfl, rfl⟩))
        all_goals (go_ret; refine ⟨ret_bool ?_, (by repeat (first | exact Below.refl _ _ | refine Below.drew ?_ | refine Below.alloc ?_ (by first | exact Nat.le_refl _ | (simp; done) | (simp; omega) | omega) _ | refine Below.more ?_ (by first | exact Nat.le_refl _ | (simp; done) | (simp; omega) | omega) _ _ | refine Below.setCell ?_ (by first | exact Nat.le_refl _ | (simp; done) | (simp; omega) | omega) _ | assumption))⟩; rw [HE.out, ← HF.out]; have hI := HI.out; simp_all [fieldsOk, named, HN.out])
      have q1 : (f0 == 1) = false := by simpa using o1
      have q2 : (f0 == 2) = false := by simpa using o2
      have q3 : (f0 == 3) = false := by simpa using o3
      have q8 : (f0 == 8) = false := by simpa using o8
      go_wp2_with (first | (go_at_call 103; refine (spec_IsIdentifier_c _ _ (by omega)).mono ?_; rintro e wn ⟨rfl, hbn⟩; obtain ⟨X, nX, rfl⟩ := Below.ext hbn; clear hbn) | (go_at_call 52; refine (l01In_c _ _ _ _).mono ?_; rintro e w' ⟨rfl, rfl⟩))
      all_goals (go_ret; refine ⟨ret_bool ?_, (by repeat (first | exact Below.refl _ _ | refine Below.drew ?_ | refine Below.alloc ?_ (by first | exact Nat.le_refl _ | (simp; done) | (simp; omega) | omega) _ | refine Below.more ?_ (by first | exact Nat.le_refl _ | (simp; done) | (simp; omega) | omega) _ _ | refine Below.setCell ?_ (by first | exact Nat.le_refl _ | (simp; done) | (simp; omega) | omega) _ | assumption))⟩; rw [HE.out, ← HF.out]; have hI := HI.out; simp_all [fieldsOk, named, inB, HN.out]; try omega)
end Go.Proofs.YtdkjiafdfenbkaaDoor
