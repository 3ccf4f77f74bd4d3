/- Contracts of what the laws do with slices of patches. -/
import Derived.Test.YtbmhehjllchpoaaSVec
namespace Go.Proofs.Ytbmhehjllchpoaa
open Go Go.RowKit
structure QuadD where
  a : VecD
  b : VecD
  c : VecD
  d : VecD
instance : Inhabited QuadD := ⟨⟨default, default, default, default⟩⟩
@[reducible] def QuadD.cells (x : QuadD) : List Value := [.int .i64 x.a.f0, .int .i64 x.a.f1, .int .i64 x.a.f2, .int .i64 x.b.f0, .int .i64 x.b.f1, .int .i64 x.b.f2, .int .i64 x.c.f0, .int .i64 x.c.f1, .int .i64 x.c.f2, .int .i64 x.d.f0, .int .i64 x.d.f1, .int .i64 x.d.f2]
def QuadD.at (l : List QuadD) (i : Nat) : List Value := (l.getD i default).cells
set_option maxRecDepth 100000 in
set_option maxHeartbeats 1000000 in
theorem eqVecA4_c (x : QuadD) (w : World) : Calls Try.prog 91 #[.agg ⟨x.cells⟩, .agg ⟨x.cells⟩] w fun e w' => e = .returned (.bool true) ∧ Below w.heap.size w w' := by
  obtain ⟨⟨a, b, c⟩, ⟨d, e, f⟩, ⟨g, h, i⟩, ⟨j, k, l⟩⟩ := x
  go_enter Try.func91, Try.ntmps91
  go_wp2
  refine wp_loop_rounds 5 ?_
  rw [rounds_succ]; go_wp2
  (first | refine region_q2 (by kernel_rfl) (by kernel_rfl) ?_ | refine region_q (by kernel_rfl) (by kernel_rfl) ?_)
  repeat (quiet_step (fail))
  (refine wpQuiet_step (fun K hK => ?_); go_simp; refine ⟨_, fun zt => ext_below (eqVec_c ⟨a, b, c⟩ _), hK _ ?_⟩; clear hK K)
  repeat (quiet_step (fail))
  (refine wpQuiet_nil ?_; intro X nX)
  go_wp2
  rw [rounds_succ]; go_wp2
  (first | refine region_q2 (by kernel_rfl) (by kernel_rfl) ?_ | refine region_q (by kernel_rfl) (by kernel_rfl) ?_)
  repeat (quiet_step (fail))
  (refine wpQuiet_step (fun K hK => ?_); go_simp; refine ⟨_, fun zt => ext_below (eqVec_c ⟨d, e, f⟩ _), hK _ ?_⟩; clear hK K)
  repeat (quiet_step (fail))
  (refine wpQuiet_nil ?_; intro X nX)
  go_wp2
  rw [rounds_succ]; go_wp2
  (first | refine region_q2 (by kernel_rfl) (by kernel_rfl) ?_ | refine region_q (by kernel_rfl) (by kernel_rfl) ?_)
  repeat (quiet_step (fail))
  (refine wpQuiet_step (fun K hK => ?_); go_simp; refine ⟨_, fun zt => ext_below (eqVec_c ⟨g, h, i⟩ _), hK _ ?_⟩; clear hK K)
  repeat (quiet_step (fail))
  (refine wpQuiet_nil ?_; intro X nX)
  go_wp2
  rw [rounds_succ]; go_wp2
  (first | refine region_q2 (by kernel_rfl) (by kernel_rfl) ?_ | refine region_q (by kernel_rfl) (by kernel_rfl) ?_)
  repeat (quiet_step (fail))
  (refine wpQuiet_step (fun K hK => ?_); go_simp; refine ⟨_, fun zt => ext_below (eqVec_c ⟨j, k, l⟩ _), hK _ ?_⟩; clear hK K)
  repeat (quiet_step (fail))
  (refine wpQuiet_nil ?_; intro X nX)
  go_wp2
  rw [rounds_succ]; go_wp2
  all_goals (go_ret; exact ⟨rfl, (by repeat (first | exact Below.refl _ _ | refine Below.drew ?_ | refine Below.alloc ?_ (by first | exact Nat.le_refl _ | (simp; done) | (simp; omega) | omega) _ | refine Below.more ?_ (by first | exact Nat.le_refl _ | (simp; done) | (simp; omega) | omega) _ _ | refine Below.setCell ?_ (by first | exact Nat.le_refl _ | (simp; done) | (simp; omega) | omega) _ | assumption))⟩)
set_option maxRecDepth 100000 in
theorem eqPatch_c (x : QuadD) (w : World) : Calls Try.prog 71 #[.agg ⟨x.cells⟩, .agg ⟨x.cells⟩] w fun e w' => e = .returned (.bool true) ∧ Below w.heap.size w w' := by
  have HE := Lib.hid (eqVecA4_c x)
  obtain ⟨⟨a, b, c⟩, ⟨d, e, f⟩, ⟨g, h, i⟩, ⟨j, k, l⟩⟩ := x
  go_enter Try.func71, Try.ntmps71
  go_wp2_with (go_at_call 91; refine (HE.out _).mono ?_; rintro e wn ⟨rfl, hbn⟩; obtain ⟨X, nX, rfl⟩ := Below.ext hbn; clear hbn)
  all_goals (go_ret; exact ⟨rfl, (by repeat (first | exact Below.refl _ _ | refine Below.drew ?_ | refine Below.alloc ?_ (by first | exact Nat.le_refl _ | (simp; done) | (simp; omega) | omega) _ | refine Below.more ?_ (by first | exact Nat.le_refl _ | (simp; done) | (simp; omega) | omega) _ _ | refine Below.setCell ?_ (by first | exact Nat.le_refl _ | (simp; done) | (simp; omega) | omega) _ | assumption))⟩)
set_option maxRecDepth 100000 in
set_option maxHeartbeats 1000000 in
theorem eqPatchS_c (a a' : Option Addr) (cap cap' : Nat) (l : List QuadD) (n : Nat) (w : World) (hr : Sl w a 12 n (QuadD.at l)) (hr' : Sl w a' 12 n (QuadD.at l)) (hn : n ≤ 9223372036854775807) :
    Calls Try.prog 34 #[.slice a n cap, .slice a' n cap'] w fun e w' => e = .returned (.bool true) ∧ Below w.heap.size w w' := by
  have HR := Lib.hid hr
  have HR' := Lib.hid hr'
  clear hr hr'
  go_enter Try.func34, Try.ntmps34
  go_wp2
  go_loopw [5] (fun i wr => ∃ (k d : Nat) (X : Array Obj), k ≤ n ∧ i = .int .i64 k ∧ wr = more w X d) (fun i _ => n - (intOf i).toNat)
  case atStart => exact ⟨0, _, #[], by omega, rfl, more_self' w⟩
  case round =>
    obtain ⟨k, d, X0, hk, rfl, rfl⟩ := hrel
    by_cases hlt : k < n
    · have hk1 : (k : Int) < (n : Int) := by omega
      have hk0 : (0 : Int) ≤ (k : Int) := by omega
      obtain ⟨b, o, rfl, hb, hc⟩ := HR.out (by omega)
      obtain ⟨b', o', rfl, hb', hc'⟩ := HR'.out (by omega)
      have c0 := hc k hlt 0 (by omega)
      have e0 := hc' k hlt 0 (by omega)
      have c1 := hc k hlt 1 (by omega)
      have e1 := hc' k hlt 1 (by omega)
      have c2 := hc k hlt 2 (by omega)
      have e2 := hc' k hlt 2 (by omega)
      have c3 := hc k hlt 3 (by omega)
      have e3 := hc' k hlt 3 (by omega)
      have c4 := hc k hlt 4 (by omega)
      have e4 := hc' k hlt 4 (by omega)
      have c5 := hc k hlt 5 (by omega)
      have e5 := hc' k hlt 5 (by omega)
      have c6 := hc k hlt 6 (by omega)
      have e6 := hc' k hlt 6 (by omega)
      have c7 := hc k hlt 7 (by omega)
      have e7 := hc' k hlt 7 (by omega)
      have c8 := hc k hlt 8 (by omega)
      have e8 := hc' k hlt 8 (by omega)
      have c9 := hc k hlt 9 (by omega)
      have e9 := hc' k hlt 9 (by omega)
      have c10 := hc k hlt 10 (by omega)
      have e10 := hc' k hlt 10 (by omega)
      have c11 := hc k hlt 11 (by omega)
      have e11 := hc' k hlt 11 (by omega)
      simp only [QuadD.at] at c0 c1 c2 c3 c4 c5 c6 c7 c8 c9 c10 c11 e0 e1 e2 e3 e4 e5 e6 e7 e8 e9 e10 e11
      clear hc hc'
      have HE := Lib.hid (eqPatch_c (l.getD k default))
      generalize l.getD k default = x at *
      obtain ⟨⟨x0, x1, x2⟩, ⟨x3, x4, x5⟩, ⟨x6, x7, x8⟩, ⟨x9, x10, x11⟩⟩ := x
      simp only [List.getElem?_cons_zero, List.getElem?_cons_succ, Nat.add_zero] at c0 c1 c2 c3 c4 c5 c6 c7 c8 c9 c10 c11 e0 e1 e2 e3 e4 e5 e6 e7 e8 e9 e10 e11
      go_wp2
      (first | refine region_q2 (by kernel_rfl) (by kernel_rfl) ?_ | refine region_q (by kernel_rfl) (by kernel_rfl) ?_)
      repeat (quiet_step (fail))
      (refine wpQuiet_step (fun K hK => ?_); go_simp; refine ⟨_, fun zt => ext_below (HE.out _), hK _ ?_⟩; clear hK K)
      repeat (quiet_step (fail))
      (refine wpQuiet_nil ?_; intro X nX)
      go_wp2
      go_roundw
      case rel => exact ⟨k + 1, _, _, by omega, by go_num, rfl⟩
      case measure => simp [intOf]; omega
    · go_wp2
      go_ret
      exact ⟨rfl, (by repeat (first | exact Below.refl _ _ | refine Below.drew ?_ | refine Below.alloc ?_ (by first | exact Nat.le_refl _ | (simp; done) | (simp; omega) | omega) _ | refine Below.more ?_ (by first | exact Nat.le_refl _ | (simp; done) | (simp; omega) | omega) _ _ | refine Below.setCell ?_ (by first | exact Nat.le_refl _ | (simp; done) | (simp; omega) | omega) _ | assumption))⟩
theorem markPatchS_c (a : Option Addr) (cap n : Nat) (k0 : Int) (w : World) (hn : n ≤ 1048576) :
    Calls Try.prog 35 #[.slice a n cap, .int .i64 k0] w fun e w' => e = .returned (.int .i64 k0) ∧ Below w.heap.size w w' := by
  go_enter Try.func35, Try.ntmps35
  go_wp2
  go_loop [5] (fun i => ∃ k : Nat, k ≤ n ∧ i = .int .i64 k) (fun i => n - (intOf i).toNat)
  case atStart => exact ⟨0, by omega, rfl⟩
  case round =>
    obtain ⟨k, hk, rfl⟩ := hrel
    by_cases hlt : k < n
    · have hk1 : (k : Int) < (n : Int) := by omega
      go_wp2
      go_round
      case rel => exact ⟨k + 1, by omega, by go_num⟩
      case measure => simp only [intOf]; omega
    · have hk1 : ¬ (k : Int) < (n : Int) := by omega
      go_wp2
      go_ret
      exact ⟨rfl, (by repeat (first | exact Below.refl _ _ | refine Below.drew ?_ | refine Below.alloc ?_ (by first | exact Nat.le_refl _ | (simp; done) | (simp; omega) | omega) _ | refine Below.more ?_ (by first | exact Nat.le_refl _ | (simp; done) | (simp; omega) | omega) _ _ | refine Below.setCell ?_ (by first | exact Nat.le_refl _ | (simp; done) | (simp; omega) | omega) _ | assumption))⟩
theorem heldPatchS_c (a : Option Addr) (cap n : Nat) (k0 : Int) (w : World) (hn : n ≤ 1048576) :
    Calls Try.prog 36 #[.slice a n cap, .int .i64 k0] w fun e w' => e = .returned (.int .i64 k0) ∧ Below w.heap.size w w' := by
  go_enter Try.func36, Try.ntmps36
  go_wp2
  go_loop [5] (fun i => ∃ k : Nat, k ≤ n ∧ i = .int .i64 k) (fun i => n - (intOf i).toNat)
  case atStart => exact ⟨0, by omega, rfl⟩
  case round =>
    obtain ⟨k, hk, rfl⟩ := hrel
    by_cases hlt : k < n
    · have hk1 : (k : Int) < (n : Int) := by omega
      go_wp2
      go_round
      case rel => exact ⟨k + 1, by omega, by go_num⟩
      case measure => simp only [intOf]; omega
    · have hk1 : ¬ (k : Int) < (n : Int) := by omega
      go_wp2
      go_ret
      exact ⟨rfl, (by repeat (first | exact Below.refl _ _ | refine Below.drew ?_ | refine Below.alloc ?_ (by first | exact Nat.le_refl _ | (simp; done) | (simp; omega) | omega) _ | refine Below.more ?_ (by first | exact Nat.le_refl _ | (simp; done) | (simp; omega) | omega) _ _ | refine Below.setCell ?_ (by first | exact Nat.le_refl _ | (simp; done) | (simp; omega) | omega) _ | assumption))⟩
end Go.Proofs.Ytbmhehjllchpoaa
