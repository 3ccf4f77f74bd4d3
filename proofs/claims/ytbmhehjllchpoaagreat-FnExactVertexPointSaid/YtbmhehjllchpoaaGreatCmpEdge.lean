/- How two edges are compared. -/
import Derived.Test.YtbmhehjllchpoaaGreatEdgeMath
import Derived.Deep.RegionHeld3
import Derived.Sort.Grow
namespace Go.Proofs.YtbmhehjllchpoaaGreat
open Go Go.RowKit Go.Sort
def cmpI (x y : Int) : Int := if x < y then -1 else if y < x then 1 else 0
def cmpE (p q : Int × Int) : Int := if cmpI p.1 q.1 = 0 then cmpI p.2 q.2 else cmpI p.1 q.1
theorem cmpE_neg (p q : Int × Int) : decide (cmpE p q < 0) = ltE p q := by
  obtain ⟨a, b⟩ := p
  obtain ⟨c, d⟩ := q
  unfold cmpE cmpI ltE
  dsimp only
  by_cases h1 : a < c
  · simp [h1]
  · by_cases h2 : c < a
    · simp [h1, h2]; omega
    · by_cases h3 : b < d
      · simp [h1, h2, h3]; omega
      · by_cases h4 : d < b
        · simp [h1, h2, h3, h4]
        · simp [h1, h2, h3, h4]
theorem cmp_isNaN_c (x : Int) (w : World) : Calls Tryz.prog 94 #[.int .i64 x] w fun e w' => e = .returned (.bool false) ∧ w = w' := by
  go_enter Tryz.func94, Tryz.ntmps94
  go_wp2
  all_goals (go_ret; refine ⟨ret_bool ?_, rfl⟩; simp)
theorem cmp_Compare_c (x y : Int) (w : World) : Calls Tryz.prog 79 #[.int .i64 x, .int .i64 y] w fun e w' => e = .returned (.int .i64 (cmpI x y)) ∧ w = w' := by
  have HC := Lib.hid (show ∀ r, r = cmpI x y → r = if x < y then -1 else if y < x then 1 else 0 from fun r h => h)
  go_enter Tryz.func79, Tryz.ntmps79
  go_wp2_with (go_at_call 94; refine (cmp_isNaN_c _ _).mono ?_; rintro e w' ⟨rfl, rfl⟩)
  all_goals (go_ret; refine ⟨ret_int ?_, rfl⟩; simp only [cmpI]; repeat' split; all_goals (first | rfl | (simp_all; done) | (exfalso; omega) | (simp at *; omega)))
/-- Of two numbers in a block: the first that is not nought. -/
theorem cmp_Or_c (g c : Nat) (x y r : Int) (w : World) (hr : r = if x = 0 then y else x) (h0 : w.cell? ⟨g, 0, none⟩ = some (.int .i64 x)) (h1 : w.cell? ⟨g, 1, none⟩ = some (.int .i64 y)) :
    Calls Tryz.prog 78 #[.slice (some ⟨g, 0, none⟩) 2 c] w fun e w' => e = .returned (.int .i64 r) ∧ w = w' := by
  have HA := Lib.hid (show (x != 0) = true → x = r from fun h => by rw [hr, if_neg (by simpa using h)])
  have HB := Lib.hid (show (x != 0) = false → y = r from fun h => by rw [hr, if_pos (by simpa using h)])
  clear hr
  go_enter Tryz.func78, Tryz.ntmps78
  go_wp2
  refine wp_loop_rounds 3 ?_
  rw [rounds_succ]
  go_wp2
  all_goals try (go_ret; exact ⟨ret_int (HA.out (by assumption)), rfl⟩)
  rw [rounds_succ]
  go_wp2
  all_goals try (go_ret; exact ⟨ret_int (HB.out (by assumption)), rfl⟩)
  rw [rounds_succ]
  go_wp2
  go_ret
  refine ⟨ret_int ?_, rfl⟩
  rw [← HB.out (by assumption)]
  simp_all
@[reducible] def CmpS (E : Nat) (a b c d : Int) (w' : World) : Prop := w'.cell? ⟨E, 0, none⟩ = some (.int .i64 a) ∧ w'.cell? ⟨E, 1, none⟩ = some (.int .i64 b) ∧ w'.cell? ⟨E + 1, 0, none⟩ = some (.int .i64 c) ∧ w'.cell? ⟨E + 1, 1, none⟩ = some (.int .i64 d)
set_option maxRecDepth 100000 in
set_option maxHeartbeats 2000000 in
theorem cmpEdges_c (p q : Int × Int) (W : World) : Calls Tryz.prog 77 #[.agg #[.int .i64 p.1, .int .i64 p.2], .agg #[.int .i64 q.1, .int .i64 q.2]] W fun e w' => e = .returned (.int .i64 (cmpE p q)) ∧ ∃ n os, w' = grow (W.drewN n) os := by
  obtain ⟨a, b⟩ := p
  obtain ⟨c, d⟩ := q
  dsimp only
  have HC1 := Lib.hid (fun w => cmp_Compare_c a c w)
  have HC2 := Lib.hid (fun w => cmp_Compare_c b d w)
  have HR := Lib.hid (show cmpE (a, b) (c, d) = if cmpI a c = 0 then cmpI b d else cmpI a c from rfl)
  generalize cmpE (a, b) (c, d) = r at *
  generalize cmpI a c = r1 at *
  generalize cmpI b d = r2 at *
  go_enter Tryz.func77, Tryz.ntmps77
  go_wp2
  refine region_tail 10 (by kernel_rfl) (by kernel_rfl) ?_
  simp only [List.take_succ_cons, List.take_zero, List.drop_succ_cons, List.drop_zero]
  repeat still_step
  still_call (flip_same (HC1.out _))
  repeat still_step
  still_call (flip_same (HC2.out _))
  repeat still_step
  refine wpStill_nil ?_
  go_wp2_with (go_at_call 78; refine (cmp_Or_c _ _ r1 r2 r _ HR.out (by simp [go_sem]) (by simp [go_sem])).mono ?_; rintro e w' ⟨rfl, rfl⟩)
  go_ret
  refine ⟨rfl, 1, #[.cells #[.int .i64 a, .int .i64 b] 63, .cells #[.int .i64 c, .int .i64 d] 63, .cells #[.int .i64 r1, .int .i64 r2] 3], ?_⟩
  unfold grow World.alloc World.drew World.drewN
  congr 1
end Go.Proofs.YtbmhehjllchpoaaGreat
