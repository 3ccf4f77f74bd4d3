/- Contract of allWithin. -/
import Derived.Test.YtdkjiafdfenbkaaDoorSInt
namespace Go.Proofs.YtdkjiafdfenbkaaDoor
open Go.RowKit
def argsIn (l : List Int) (lo hi : Int) : Prop := ∀ i, i < l.length → lo ≤ l.getD i 0 ∧ l.getD i 0 ≤ hi
open Classical in
noncomputable def argsInB (l : List Int) (lo hi : Int) : Bool := decide (argsIn l lo hi)
theorem argsInB_no {l : List Int} {lo hi : Int} {k : Nat} (h : k < l.length) (hn : inB (l.getD k 0) lo hi = false) : argsInB l lo hi = false := by
  simp only [argsInB, decide_eq_false_iff_not]
  exact fun ha => inB_false.1 hn (ha k h)
theorem argsInB_all {l : List Int} {lo hi : Int} (h : argsIn l lo hi) : argsInB l lo hi = true := by
  simp only [argsInB, decide_eq_true_eq]; exact h
set_option maxRecDepth 100000 in
theorem allWithin_c (a : Option Addr) (cap : Nat) (l : List Int) (n : Nat) (HN : Hid (l.length = n)) (lo hi : Int) (w : World) (hr : Sl w a 1 n (intAt l)) (hn : n ≤ 1048576) :
    Calls Tryd.prog 108 #[.slice a n cap, .int .i64 lo, .int .i64 hi] w fun e w' => e = .returned (.bool (argsInB l lo hi)) ∧ w = w' := by
  have HR := Lib.hid hr
  clear hr
  go_enter Tryd.func108, Tryd.ntmps108
  go_wp2
  go_loop [11] (fun i => ∃ (k : Nat), k ≤ n ∧ i = .int .i64 k ∧ Hid (∀ j, j < k → lo ≤ l.getD j 0 ∧ l.getD j 0 ≤ hi)) (fun i => n - (intOf i).toNat)
  case atStart => exact ⟨0, by omega, rfl, Lib.hid fun j hj => by omega⟩
  case round =>
    obtain ⟨k, hk, rfl, HALL⟩ := hrel
    by_cases hlt : k < n
    · have hk1 : (k : Int) < (n : Int) := by omega
      obtain ⟨b, o, rfl, hb, hc⟩ := HR.out (by omega)
      have c0 : w.cell? ⟨b, o + k, none⟩ = some (.int .i64 (l.getD k 0)) := by
        have := hc k hlt 0 (by omega)
        rw [Nat.mul_one, Nat.add_zero] at this
        rw [this]; simp [intAt]
      clear hc
      have HNO := Lib.hid (fun h => argsInB_no (l := l) (lo := lo) (hi := hi) (k := k) (by rw [HN.out]; exact hlt) h)
      have HYES := Lib.hid (show inB (l.getD k 0) lo hi = true → ∀ j, j < k + 1 → lo ≤ l.getD j 0 ∧ l.getD j 0 ≤ hi from fun h j hj => by
        by_cases hjk : j = k
        · subst hjk; exact inB_true.1 h
        · exact HALL.out j (by omega))
      generalize l.getD k 0 = x at *
      cases hin : inB x lo hi
      · go_wp2_with (go_at_call 47; refine (within_c _ _ _ _).mono ?_; rw [hin]; rintro e w' ⟨rfl, rfl⟩)
        go_ret
        exact ⟨ret_bool (HNO.out hin).symm, rfl⟩
      · go_wp2_with (go_at_call 47; refine (within_c _ _ _ _).mono ?_; rw [hin]; rintro e w' ⟨rfl, rfl⟩)
        go_round
        case rel => exact ⟨k + 1, by omega, rfl, Lib.hid (HYES.out hin)⟩
        case measure => simp only [intOf]; omega
    · have hk1 : ¬ (k : Int) < (n : Int) := by omega
      have HE := Lib.hid (argsInB_all (l := l) (lo := lo) (hi := hi) fun j hj => HALL.out j (by rw [HN.out] at hj; omega))
      go_wp2
      go_ret
      exact ⟨ret_bool HE.out.symm, rfl⟩
end Go.Proofs.YtdkjiafdfenbkaaDoor
