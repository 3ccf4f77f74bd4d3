/- Contracts of slices.Contains for integers. -/
import Derived.Test.YtbmhehjllchpoaaSInt
namespace Go.Proofs.Ytbmhehjllchpoaa
open Go.RowKit
open Classical in
/-- x stands before place j. -/
noncomputable def inTo (f : List Int) (x : Int) (j : Nat) : Bool := decide (∃ t, t < j ∧ f.getD t 0 = x)
noncomputable def hasB (f : List Int) (x : Int) : Bool := inTo f x f.length
theorem inTo_zero (f : List Int) (x : Int) : inTo f x 0 = false := by simp [inTo]
theorem inTo_yes {f : List Int} {x : Int} {j t : Nat} (h : t < j) (e : f.getD t 0 = x) : inTo f x j = true := by
  simp only [inTo, decide_eq_true_eq]; exact ⟨t, h, e⟩
theorem inTo_no {f : List Int} {x : Int} {j : Nat} (h : ∀ t, t < j → f.getD t 0 ≠ x) : inTo f x j = false := by
  simp only [inTo, decide_eq_false_iff_not]; rintro ⟨t, h1, h2⟩; exact h t h1 h2
theorem inTo_succ_ne {f : List Int} {x : Int} {j : Nat} (h : f.getD j 0 ≠ x) : inTo f x (j + 1) = inTo f x j := by
  unfold inTo
  congr 1
  apply propext
  constructor
  · rintro ⟨t, h1, h2⟩
    refine ⟨t, ?_, h2⟩
    rcases Nat.lt_or_ge t j with h3 | h3
    · exact h3
    · obtain rfl : t = j := by omega
      exact absurd h2 h
  · rintro ⟨t, h1, h2⟩; exact ⟨t, by omega, h2⟩
set_option maxRecDepth 100000 in
theorem indexAny_c (a : Option Addr) (cap : Nat) (l : List Int) (n : Nat) (HN : Hid (l.length = n)) (v : Int) (w : World) (hr : Sl w a 1 n (intAt l)) (hn : n ≤ 1048576) :
    Calls Try.prog 86 #[.slice a n cap, .int .i64 v] w fun e w' => ∃ r : Int, e = .returned (.int .i64 r) ∧ w = w' ∧ (0 ≤ r ↔ hasB l v = true) := by
  have HR := Lib.hid hr
  clear hr
  go_enter Try.func86, Try.ntmps86
  go_wp2
  go_loop [8] (fun i => ∃ (j : Nat), j ≤ n ∧ i = .int .i64 j ∧ Hid (∀ t, t < j → l.getD t 0 ≠ v)) (fun i => n - (intOf i).toNat)
  case atStart => exact ⟨0, by omega, rfl, Lib.hid fun j hj => by omega⟩
  case round =>
    obtain ⟨j, hj, rfl, HALL⟩ := hrel
    by_cases hlt : j < n
    · have hj1 : (j : Int) < (n : Int) := by omega
      have hj2 : (0 : Int) ≤ (j : Int) := by omega
      obtain ⟨b, o, rfl, hb, hc⟩ := HR.out (by omega)
      have c0 : w.cell? ⟨b, o + j, none⟩ = some (.int .i64 (l.getD j 0)) := by
        have := hc j (by omega) 0 (by omega)
        rw [Nat.mul_one, Nat.add_zero] at this
        rw [this]; simp [intAt]
      clear hc
      have HY := Lib.hid (show l.getD j 0 = v → hasB l v = true from fun e => inTo_yes (by rw [HN.out]; exact hlt) e)
      have HX := Lib.hid (show l.getD j 0 ≠ v → ∀ t, t < j + 1 → l.getD t 0 ≠ v from fun h t ht => by
        by_cases e : t = j
        · subst e; exact h
        · exact HALL.out t (by omega))
      generalize l.getD j 0 = x at *
      by_cases hvx : v = x
      · have HF := Lib.hid (HY.out hvx.symm)
        subst hvx
        go_wp2
        go_ret
        exact ⟨(j : Int), rfl, rfl, by rw [HF.out]; simp⟩
      · have hb0 : (v == x) = false := by simpa using hvx
        have HF := Lib.hid (HX.out (fun e => hvx e.symm))
        clear hvx
        go_wp2
        go_round
        case rel => exact ⟨j + 1, by omega, rfl, HF⟩
        case measure => simp only [intOf]; omega
    · have hj1 : ¬ (j : Int) < (n : Int) := by omega
      have HF := Lib.hid (show hasB l v = false from inTo_no (fun t ht => HALL.out t (by rw [HN.out] at ht; omega)))
      go_wp2
      go_ret
      exact ⟨-1, rfl, rfl, by rw [HF.out]; simp⟩
theorem contains_c (a : Option Addr) (cap : Nat) (l : List Int) (n : Nat) (HN : Hid (l.length = n)) (v : Int) (w : World) (hr : Sl w a 1 n (intAt l)) (hn : n ≤ 1048576) :
    Calls Try.prog 90 #[.slice a n cap, .int .i64 v] w fun e w' => e = .returned (.bool (hasB l v)) ∧ w = w' := by
  have HR := Lib.hid hr
  clear hr
  go_enter Try.func90, Try.ntmps90
  go_wp2_with (go_at_call 86; refine (indexAny_c a cap l n HN v _ HR.out hn).mono ?_; rintro e w' ⟨r, rfl, rfl, hr⟩; have HR := Lib.hid hr; clear hr)
  all_goals
    go_ret
    refine ⟨ret_bool ?_, rfl⟩
    have := HR.out
    cases h : hasB l v <;> simp [h] at this ⊢ <;> omega
end Go.Proofs.Ytbmhehjllchpoaa
