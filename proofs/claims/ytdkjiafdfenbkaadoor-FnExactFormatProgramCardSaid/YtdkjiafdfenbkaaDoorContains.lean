/- Contracts of slices.ContainsFunc as impl.IsValidProgram uses it. -/
import Derived.Test.YtdkjiafdfenbkaaDoorUses
namespace Go.Proofs.YtdkjiafdfenbkaaDoor
open Go.RowKit
def allOne (n : Nat) (L : List Int) : Prop := ∀ k : Nat, k < n → L.count (k : Int) = 1
open Classical in
noncomputable def allOneB (n : Nat) (L : List Int) : Bool := decide (allOne n L)
theorem notOne_c (x : Int) (w : World) : Calls Tryd.prog 111 #[.int .i64 x] w fun e w' => e = .returned (.bool (x != 1)) ∧ w = w' := by
  go_enter Tryd.func111, Tryd.ntmps111
  go_wp2
  go_ret
  exact ⟨rfl, rfl⟩
set_option maxRecDepth 100000 in
theorem indexNotOne_c (U n : Nat) (L : List Int) (e : TypeId) (w : World) (hu : w.heap[U]? = some (.cells ⟨counts n L⟩ e (0, 0))) (hn : n ≤ 1048576) :
    Calls Tryd.prog 133 #[.slice (some ⟨U, 0, none⟩) n n, .func (.func 111) #[] #[]] w fun e w' => ∃ r : Int, e = .returned (.int .i64 r) ∧ w = w' ∧ (0 ≤ r ↔ allOneB n L = false) := by
  have HU := Lib.hid hu
  have y1 : U < w.heap.size := (Array.getElem?_eq_some_iff.1 hu).1
  clear hu
  go_enter Tryd.func133, Tryd.ntmps133
  go_wp2
  go_loop [8] (fun i => ∃ (k : Nat), k ≤ n ∧ i = .int .i64 k ∧ Hid (∀ j : Nat, j < k → L.count (j : Int) = 1)) (fun i => n - (intOf i).toNat)
  case atStart => exact ⟨0, by omega, rfl, Lib.hid (fun j hj => by omega)⟩
  case round =>
    obtain ⟨k, hk, rfl, HALL⟩ := hrel
    by_cases hlt : k < n
    · have hk1 : (k : Int) < (n : Int) := by omega
      have k0 := count_cell HU.out hlt
      have HNO := Lib.hid (show L.count (k : Int) ≠ 1 → allOneB n L = false from fun h => by
        simp only [allOneB, decide_eq_false_iff_not]; exact fun ha => h (ha k hlt))
      have HYES := Lib.hid (show L.count (k : Int) = 1 → ∀ j : Nat, j < k + 1 → L.count (j : Int) = 1 from fun h j hj => by
        by_cases hjk : j = k
        · subst hjk; exact h
        · exact HALL.out j (by omega))
      generalize L.count (k : Int) = cn at *
      cases b1 : ((cn : Int) != 1)
      · have hc1 : cn = 1 := by simp at b1; omega
        have HC1 := Lib.hid hc1
        clear hc1
        go_wp2_with (go_at_call 111; refine (notOne_c _ _).mono ?_; rw [b1]; rintro e w' ⟨rfl, rfl⟩)
        go_round
        case rel => exact ⟨k + 1, by omega, rfl, Lib.hid (HYES.out HC1.out)⟩
        case measure => simp only [intOf]; omega
      · have hc1 : cn ≠ 1 := by intro h; subst h; simp at b1
        have HC1 := Lib.hid (HNO.out hc1)
        clear hc1
        go_wp2_with (go_at_call 111; refine (notOne_c _ _).mono ?_; rw [b1]; rintro e w' ⟨rfl, rfl⟩)
        go_ret
        exact ⟨_, rfl, rfl, by rw [HC1.out]; simp⟩
    · have hk1 : ¬ (k : Int) < (n : Int) := by omega
      have HE := Lib.hid (show allOneB n L = true from by
        simp only [allOneB, decide_eq_true_eq]; exact fun j hj => HALL.out j (by omega))
      go_wp2
      go_ret
      exact ⟨_, rfl, rfl, by rw [HE.out]; simp⟩
theorem containsNotOne_c (U n : Nat) (L : List Int) (e : TypeId) (w : World) (hu : w.heap[U]? = some (.cells ⟨counts n L⟩ e (0, 0))) (hn : n ≤ 1048576) :
    Calls Tryd.prog 110 #[.slice (some ⟨U, 0, none⟩) n n, .func (.func 111) #[] #[]] w fun e w' => e = .returned (.bool (!allOneB n L)) ∧ w = w' := by
  have HU := Lib.hid hu
  clear hu
  go_enter Tryd.func110, Tryd.ntmps110
  go_wp2_with (go_at_call 133; refine (indexNotOne_c U n L e _ HU.out hn).mono ?_; rintro e w' ⟨r, rfl, rfl, hr⟩; have HR := Lib.hid hr; clear hr)
  all_goals
    go_ret
    refine ⟨ret_bool ?_, rfl⟩
    have := HR.out
    cases h : allOneB n L <;> simp [h] at this ⊢ <;> omega
end Go.Proofs.YtdkjiafdfenbkaaDoor
