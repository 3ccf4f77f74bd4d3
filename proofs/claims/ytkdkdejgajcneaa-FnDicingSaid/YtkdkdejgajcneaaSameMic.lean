/- Contracts of SameMicropolygons. -/
import Derived.Test.YtkdkdejgajcneaaSMicropolygon
import Derived.Test.YtkdkdejgajcneaaEq
namespace Go.Proofs.Ytkdkdejgajcneaa
open Go Go.RowKit
def micEq (x y : MicropolygonD) : Bool := (vecEq x.f0 x.f1 x.f2 y.f0 y.f1 y.f2 && (vecEq x.f3 x.f4 x.f5 y.f3 y.f4 y.f5 && (vecEq x.f6 x.f7 x.f8 y.f6 y.f7 y.f8 && true)) && true) && (x.f9 == y.f9 && (x.f10 == y.f10 && (x.f11 == y.f11 && true)))
theorem equal_mic {d : Nat} (a0 a1 a2 a3 a4 a5 a6 a7 a8 a9 a10 a11 b0 b1 b2 b3 b4 b5 b6 b7 b8 b9 b10 b11 : Int) (w : World) : (Op.equalIn (d + 5) 45 (.agg #[.int .i64 a0, .int .i64 a1, .int .i64 a2, .int .i64 a3, .int .i64 a4, .int .i64 a5, .int .i64 a6, .int .i64 a7, .int .i64 a8, .int .i64 a9, .int .i64 a10, .int .i64 a11]) (.agg #[.int .i64 b0, .int .i64 b1, .int .i64 b2, .int .i64 b3, .int .i64 b4, .int .i64 b5, .int .i64 b6, .int .i64 b7, .int .i64 b8, .int .i64 b9, .int .i64 b10, .int .i64 b11])).run Try.prog w = .ok (micEq ⟨a0, a1, a2, a3, a4, a5, a6, a7, a8, a9, a10, a11⟩ ⟨b0, b1, b2, b3, b4, b5, b6, b7, b8, b9, b10, b11⟩) w := by
  rw [run_equalIn_struct _ _ _ _ _ (by simp [Program.fieldsOf, Try.underlying45]) (by kernel_rfl)]
  simp only [Program.fieldsOf, Try.underlying45]
  have hag : (isAgg 43).run Try.prog w = .ok true w := by kernel_rfl
  have hsz : (sizeOf 43).run Try.prog w = .ok 9 w := by kernel_rfl
  have hai : (isAgg 3).run Try.prog w = .ok false w := by kernel_rfl
  refine eqFields_cons (by simp) (run_part_agg hag hsz) (run_part_agg hag hsz) (equal_tri a0 a1 a2 a3 a4 a5 a6 a7 a8 b0 b1 b2 b3 b4 b5 b6 b7 b8 w) ?_
  refine eqFields_cons (by simp) (run_part_leaf hai rfl) (run_part_leaf hai rfl) (run_equalIn_int _ _ _ _ _ _ _ Try.underlying3) ?_
  refine eqFields_cons (by simp) (run_part_leaf hai rfl) (run_part_leaf hai rfl) (run_equalIn_int _ _ _ _ _ _ _ Try.underlying3) ?_
  refine eqFields_cons (by simp) (run_part_leaf hai rfl) (run_part_leaf hai rfl) (run_equalIn_int _ _ _ _ _ _ _ Try.underlying3) ?_
  exact eqFields_nil
@[go_sem ↓ high] theorem run_eql_mic (a0 a1 a2 a3 a4 a5 a6 a7 a8 a9 a10 a11 b0 b1 b2 b3 b4 b5 b6 b7 b8 b9 b10 b11 : Int) (w : World) : (binOp .eql 45 (.agg #[.int .i64 a0, .int .i64 a1, .int .i64 a2, .int .i64 a3, .int .i64 a4, .int .i64 a5, .int .i64 a6, .int .i64 a7, .int .i64 a8, .int .i64 a9, .int .i64 a10, .int .i64 a11]) (.agg #[.int .i64 b0, .int .i64 b1, .int .i64 b2, .int .i64 b3, .int .i64 b4, .int .i64 b5, .int .i64 b6, .int .i64 b7, .int .i64 b8, .int .i64 b9, .int .i64 b10, .int .i64 b11])).run Try.prog w = .ok (.bool (micEq ⟨a0, a1, a2, a3, a4, a5, a6, a7, a8, a9, a10, a11⟩ ⟨b0, b1, b2, b3, b4, b5, b6, b7, b8, b9, b10, b11⟩)) w := by
  rw [run_eql_struct, equal_mic (d := 9995)]
  rfl
@[go_sem ↓ high] theorem run_neq_mic (a0 a1 a2 a3 a4 a5 a6 a7 a8 a9 a10 a11 b0 b1 b2 b3 b4 b5 b6 b7 b8 b9 b10 b11 : Int) (w : World) : (binOp .neq 45 (.agg #[.int .i64 a0, .int .i64 a1, .int .i64 a2, .int .i64 a3, .int .i64 a4, .int .i64 a5, .int .i64 a6, .int .i64 a7, .int .i64 a8, .int .i64 a9, .int .i64 a10, .int .i64 a11]) (.agg #[.int .i64 b0, .int .i64 b1, .int .i64 b2, .int .i64 b3, .int .i64 b4, .int .i64 b5, .int .i64 b6, .int .i64 b7, .int .i64 b8, .int .i64 b9, .int .i64 b10, .int .i64 b11])).run Try.prog w = .ok (.bool (!micEq ⟨a0, a1, a2, a3, a4, a5, a6, a7, a8, a9, a10, a11⟩ ⟨b0, b1, b2, b3, b4, b5, b6, b7, b8, b9, b10, b11⟩)) w := by
  rw [run_neq_struct, equal_mic (d := 9995)]
  rfl
@[go_sem ↓ high] theorem guard_mic (op : BinOp) (x y : Operand) (xs ys : Array Value) (w : World) : (eqGuard op 45 x y (.agg xs) (.agg ys)).run Try.prog w = .ok () w := run_eqGuard_agg w op _ x y xs ys (by kernel_rfl)
/-- Are two lists equal, element by element? -/
def micsEq (l l' : List MicropolygonD) (n n' : Nat) : Bool := decide (n = n') && decide (∀ i, i < n → micEq (l.getD i default) (l'.getD i default) = true)
set_option maxRecDepth 100000 in
set_option maxHeartbeats 2000000 in
theorem equal_mics (a a' : Option Addr) (cap cap' : Nat) (l l' : List MicropolygonD) (n n' : Nat) (w : World) (hr : Sl w a 12 n (MicropolygonD.at l)) (hr' : Sl w a' 12 n' (MicropolygonD.at l')) (hn : n ≤ 1048576) (hn' : n' ≤ 1048576) :
    Calls Try.prog 77 #[.slice a n cap, .slice a' n' cap'] w fun e w' => e = .returned (.bool (micsEq l l' n n')) ∧ Below w.heap.size w w' := by
  have HR := Lib.hid hr
  have HR' := Lib.hid hr'
  clear hr hr'
  by_cases hnn : n = n'
  · subst hnn
    have hb0 : ((n : Int) != (n : Int)) = false := by simp
    go_enter Try.func77, Try.ntmps77
    go_wp2
    go_loopw [13] (fun i wr => ∃ (k d : Nat) (X0 : Array Obj), k ≤ n ∧ i = .int .i64 k ∧ (∀ i, i < k → micEq (l.getD i default) (l'.getD i default) = true) ∧ wr = more w X0 d) (fun i _ => n - (intOf i).toNat)
    case atStart => exact ⟨0, _, #[], by omega, rfl, fun i hi => by omega, more_self' w⟩
    case round =>
      obtain ⟨k, d, X0, hk, rfl, hall, rfl⟩ := hrel
      have HALL := Lib.hid hall
      clear hall
      by_cases hlt : k < n
      · have hk1 : (k : Int) < (n : Int) := by omega
        have hk0 : (0 : Int) ≤ (k : Int) := by omega
        obtain ⟨b, o, rfl, hb, hc⟩ := HR.out (by omega)
        have HC := Lib.hid hc
        clear hc
        obtain ⟨b', o', rfl, hb', hc'⟩ := HR'.out (by omega)
        have HC2 := Lib.hid hc'
        clear hc'
        have c0 : w.cell? ⟨b, o + k * 12, none⟩ = some (.int .i64 (l.getD k default).f0) := HC.out k hlt 0 (by omega)
        have c1 : w.cell? ⟨b, o + k * 12 + 1, none⟩ = some (.int .i64 (l.getD k default).f1) := HC.out k hlt 1 (by omega)
        have c2 : w.cell? ⟨b, o + k * 12 + 2, none⟩ = some (.int .i64 (l.getD k default).f2) := HC.out k hlt 2 (by omega)
        have c3 : w.cell? ⟨b, o + k * 12 + 3, none⟩ = some (.int .i64 (l.getD k default).f3) := HC.out k hlt 3 (by omega)
        have c4 : w.cell? ⟨b, o + k * 12 + 4, none⟩ = some (.int .i64 (l.getD k default).f4) := HC.out k hlt 4 (by omega)
        have c5 : w.cell? ⟨b, o + k * 12 + 5, none⟩ = some (.int .i64 (l.getD k default).f5) := HC.out k hlt 5 (by omega)
        have c6 : w.cell? ⟨b, o + k * 12 + 6, none⟩ = some (.int .i64 (l.getD k default).f6) := HC.out k hlt 6 (by omega)
        have c7 : w.cell? ⟨b, o + k * 12 + 7, none⟩ = some (.int .i64 (l.getD k default).f7) := HC.out k hlt 7 (by omega)
        have c8 : w.cell? ⟨b, o + k * 12 + 8, none⟩ = some (.int .i64 (l.getD k default).f8) := HC.out k hlt 8 (by omega)
        have c9 : w.cell? ⟨b, o + k * 12 + 9, none⟩ = some (.int .i64 (l.getD k default).f9) := HC.out k hlt 9 (by omega)
        have c10 : w.cell? ⟨b, o + k * 12 + 10, none⟩ = some (.int .i64 (l.getD k default).f10) := HC.out k hlt 10 (by omega)
        have c11 : w.cell? ⟨b, o + k * 12 + 11, none⟩ = some (.int .i64 (l.getD k default).f11) := HC.out k hlt 11 (by omega)
        have e0 : w.cell? ⟨b', o' + k * 12, none⟩ = some (.int .i64 (l'.getD k default).f0) := HC2.out k hlt 0 (by omega)
        have e1 : w.cell? ⟨b', o' + k * 12 + 1, none⟩ = some (.int .i64 (l'.getD k default).f1) := HC2.out k hlt 1 (by omega)
        have e2 : w.cell? ⟨b', o' + k * 12 + 2, none⟩ = some (.int .i64 (l'.getD k default).f2) := HC2.out k hlt 2 (by omega)
        have e3 : w.cell? ⟨b', o' + k * 12 + 3, none⟩ = some (.int .i64 (l'.getD k default).f3) := HC2.out k hlt 3 (by omega)
        have e4 : w.cell? ⟨b', o' + k * 12 + 4, none⟩ = some (.int .i64 (l'.getD k default).f4) := HC2.out k hlt 4 (by omega)
        have e5 : w.cell? ⟨b', o' + k * 12 + 5, none⟩ = some (.int .i64 (l'.getD k default).f5) := HC2.out k hlt 5 (by omega)
        have e6 : w.cell? ⟨b', o' + k * 12 + 6, none⟩ = some (.int .i64 (l'.getD k default).f6) := HC2.out k hlt 6 (by omega)
        have e7 : w.cell? ⟨b', o' + k * 12 + 7, none⟩ = some (.int .i64 (l'.getD k default).f7) := HC2.out k hlt 7 (by omega)
        have e8 : w.cell? ⟨b', o' + k * 12 + 8, none⟩ = some (.int .i64 (l'.getD k default).f8) := HC2.out k hlt 8 (by omega)
        have e9 : w.cell? ⟨b', o' + k * 12 + 9, none⟩ = some (.int .i64 (l'.getD k default).f9) := HC2.out k hlt 9 (by omega)
        have e10 : w.cell? ⟨b', o' + k * 12 + 10, none⟩ = some (.int .i64 (l'.getD k default).f10) := HC2.out k hlt 10 (by omega)
        have e11 : w.cell? ⟨b', o' + k * 12 + 11, none⟩ = some (.int .i64 (l'.getD k default).f11) := HC2.out k hlt 11 (by omega)
        have hstep : micEq (l.getD k default) (l'.getD k default) = true → ∀ i, i < k + 1 → micEq (l.getD i default) (l'.getD i default) = true := by
          intro q i hi
          by_cases hik : i = k
          · subst hik; exact q
          · exact HALL.out i (by omega)
        have hstop : micEq (l.getD k default) (l'.getD k default) = false → micsEq l l' n n = false := by
          intro q
          simp only [micsEq, Bool.and_eq_false_iff, decide_eq_false_iff_not]
          exact .inr fun h => by rw [h k hlt] at q; cases q
        have HS1 := Lib.hid hstep
        have HS2 := Lib.hid hstop
        clear hstep hstop
        generalize l.getD k default = x at *
        generalize l'.getD k default = y at *
        obtain ⟨a0, a1, a2, a3, a4, a5, a6, a7, a8, a9, a10, a11⟩ := x
        obtain ⟨b0, b1, b2, b3, b4, b5, b6, b7, b8, b9, b10, b11⟩ := y
        dsimp only at c0 c1 c2 c3 c4 c5 c6 c7 c8 c9 c10 c11 e0 e1 e2 e3 e4 e5 e6 e7 e8 e9 e10 e11
        cases hq : micEq ⟨a0, a1, a2, a3, a4, a5, a6, a7, a8, a9, a10, a11⟩ ⟨b0, b1, b2, b3, b4, b5, b6, b7, b8, b9, b10, b11⟩
        all_goals
          go_wp2
          (first | refine region_q2 (by kernel_rfl) (by kernel_rfl) ?_ | refine region_q (by kernel_rfl) (by kernel_rfl) ?_)
          repeat (quiet_step (fail))
          (refine wpQuiet_nil ?_; intro X nX)
          go_wp2
        · go_ret
          exact ⟨ret_bool (HS2.out hq).symm, (by repeat (first | exact Below.refl _ _ | refine Below.drew ?_ | refine Below.alloc ?_ (by first | exact Nat.le_refl _ | (simp; done) | (simp; omega) | omega) _ | refine Below.more ?_ (by first | exact Nat.le_refl _ | (simp; done) | (simp; omega) | omega) _ _ | refine Below.setCell ?_ (by first | exact Nat.le_refl _ | (simp; done) | (simp; omega) | omega) _ | assumption))⟩
        · obtain ⟨X', d', e⟩ := Below.ext (w := w) (w' := more w X nX) (by repeat (first | exact Below.refl _ _ | refine Below.drew ?_ | refine Below.alloc ?_ (by first | exact Nat.le_refl _ | (simp; done) | (simp; omega) | omega) _ | refine Below.more ?_ (by first | exact Nat.le_refl _ | (simp; done) | (simp; omega) | omega) _ _ | refine Below.setCell ?_ (by first | exact Nat.le_refl _ | (simp; done) | (simp; omega) | omega) _ | assumption))
          exact ⟨⟨k + 1, d', X', by omega, rfl, HS1.out hq, e⟩, by simp only [intOf]; omega⟩
      · have hk' : k = n := by omega
        have hfin : micsEq l l' n n = true := by
          simp only [micsEq, decide_true, Bool.true_and, decide_eq_true_eq]
          intro i hi; exact HALL.out i (by omega)
        have HK := Lib.hid hk'
        have HF := Lib.hid hfin
        clear hk' hfin
        go_wp2
        go_ret
        exact ⟨ret_bool HF.out.symm, (by repeat (first | exact Below.refl _ _ | refine Below.drew ?_ | refine Below.alloc ?_ (by first | exact Nat.le_refl _ | (simp; done) | (simp; omega) | omega) _ | refine Below.more ?_ (by first | exact Nat.le_refl _ | (simp; done) | (simp; omega) | omega) _ _ | refine Below.setCell ?_ (by first | exact Nat.le_refl _ | (simp; done) | (simp; omega) | omega) _ | assumption))⟩
  · have hb0 : ((n : Int) != (n' : Int)) = true := by rw [bne_iff_ne]; omega
    have hfin : micsEq l l' n n' = false := by simp [micsEq, hnn]
    have HF := Lib.hid hfin
    clear hfin hnn
    go_enter Try.func77, Try.ntmps77
    go_wp2
    go_ret
    exact ⟨ret_bool HF.out.symm, (by repeat (first | exact Below.refl _ _ | refine Below.drew ?_ | refine Below.alloc ?_ (by first | exact Nat.le_refl _ | (simp; done) | (simp; omega) | omega) _ | refine Below.more ?_ (by first | exact Nat.le_refl _ | (simp; done) | (simp; omega) | omega) _ _ | refine Below.setCell ?_ (by first | exact Nat.le_refl _ | (simp; done) | (simp; omega) | omega) _ | assumption))⟩
set_option maxRecDepth 100000 in
set_option maxHeartbeats 2000000 in
theorem spec_SameMicropolygons_core (a a' : Option Addr) (cap cap' : Nat) (l l' : List MicropolygonD) (n n' : Nat) (w : World) (hr : Sl w a 12 n (MicropolygonD.at l)) (hr' : Sl w a' 12 n' (MicropolygonD.at l')) (hn : n ≤ 1048576) (hn' : n' ≤ 1048576) :
    Calls Try.prog 34 #[.slice a n cap, .slice a' n' cap'] w fun e w' => e = .returned (.bool (micsEq l l' n n')) ∧ Below w.heap.size w w' := by
  have HR := Lib.hid hr
  have HR' := Lib.hid hr'
  clear hr hr'
  by_cases hnn : n = n'
  · subst hnn
    have hb0 : ((n : Int) != (n : Int)) = false := by simp
    go_enter Try.func34, Try.ntmps34
    go_wp2
    go_loopw [14] (fun i wr => ∃ (k d : Nat) (X0 : Array Obj), k ≤ n ∧ i = .int .i64 k ∧ (∀ i, i < k → micEq (l.getD i default) (l'.getD i default) = true) ∧ wr = more w X0 d) (fun i _ => n - (intOf i).toNat)
    case atStart => exact ⟨0, _, #[], by omega, rfl, fun i hi => by omega, more_self' w⟩
    case round =>
      obtain ⟨k, d, X0, hk, rfl, hall, rfl⟩ := hrel
      have HALL := Lib.hid hall
      clear hall
      by_cases hlt : k < n
      · have hk1 : (k : Int) < (n : Int) := by omega
        have hk0 : (0 : Int) ≤ (k : Int) := by omega
        obtain ⟨b, o, rfl, hb, hc⟩ := HR.out (by omega)
        have HC := Lib.hid hc
        clear hc
        obtain ⟨b', o', rfl, hb', hc'⟩ := HR'.out (by omega)
        have HC2 := Lib.hid hc'
        clear hc'
        have hb1 : b' < w.heap.size + X0.size := by omega
        have hb2 : b' < w.heap.size + X0.size + 1 := by omega
        have c0 : w.cell? ⟨b, o + k * 12, none⟩ = some (.int .i64 (l.getD k default).f0) := HC.out k hlt 0 (by omega)
        have c1 : w.cell? ⟨b, o + k * 12 + 1, none⟩ = some (.int .i64 (l.getD k default).f1) := HC.out k hlt 1 (by omega)
        have c2 : w.cell? ⟨b, o + k * 12 + 2, none⟩ = some (.int .i64 (l.getD k default).f2) := HC.out k hlt 2 (by omega)
        have c3 : w.cell? ⟨b, o + k * 12 + 3, none⟩ = some (.int .i64 (l.getD k default).f3) := HC.out k hlt 3 (by omega)
        have c4 : w.cell? ⟨b, o + k * 12 + 4, none⟩ = some (.int .i64 (l.getD k default).f4) := HC.out k hlt 4 (by omega)
        have c5 : w.cell? ⟨b, o + k * 12 + 5, none⟩ = some (.int .i64 (l.getD k default).f5) := HC.out k hlt 5 (by omega)
        have c6 : w.cell? ⟨b, o + k * 12 + 6, none⟩ = some (.int .i64 (l.getD k default).f6) := HC.out k hlt 6 (by omega)
        have c7 : w.cell? ⟨b, o + k * 12 + 7, none⟩ = some (.int .i64 (l.getD k default).f7) := HC.out k hlt 7 (by omega)
        have c8 : w.cell? ⟨b, o + k * 12 + 8, none⟩ = some (.int .i64 (l.getD k default).f8) := HC.out k hlt 8 (by omega)
        have c9 : w.cell? ⟨b, o + k * 12 + 9, none⟩ = some (.int .i64 (l.getD k default).f9) := HC.out k hlt 9 (by omega)
        have c10 : w.cell? ⟨b, o + k * 12 + 10, none⟩ = some (.int .i64 (l.getD k default).f10) := HC.out k hlt 10 (by omega)
        have c11 : w.cell? ⟨b, o + k * 12 + 11, none⟩ = some (.int .i64 (l.getD k default).f11) := HC.out k hlt 11 (by omega)
        have e0 : w.cell? ⟨b', o' + k * 12, none⟩ = some (.int .i64 (l'.getD k default).f0) := HC2.out k hlt 0 (by omega)
        have e1 : w.cell? ⟨b', o' + k * 12 + 1, none⟩ = some (.int .i64 (l'.getD k default).f1) := HC2.out k hlt 1 (by omega)
        have e2 : w.cell? ⟨b', o' + k * 12 + 2, none⟩ = some (.int .i64 (l'.getD k default).f2) := HC2.out k hlt 2 (by omega)
        have e3 : w.cell? ⟨b', o' + k * 12 + 3, none⟩ = some (.int .i64 (l'.getD k default).f3) := HC2.out k hlt 3 (by omega)
        have e4 : w.cell? ⟨b', o' + k * 12 + 4, none⟩ = some (.int .i64 (l'.getD k default).f4) := HC2.out k hlt 4 (by omega)
        have e5 : w.cell? ⟨b', o' + k * 12 + 5, none⟩ = some (.int .i64 (l'.getD k default).f5) := HC2.out k hlt 5 (by omega)
        have e6 : w.cell? ⟨b', o' + k * 12 + 6, none⟩ = some (.int .i64 (l'.getD k default).f6) := HC2.out k hlt 6 (by omega)
        have e7 : w.cell? ⟨b', o' + k * 12 + 7, none⟩ = some (.int .i64 (l'.getD k default).f7) := HC2.out k hlt 7 (by omega)
        have e8 : w.cell? ⟨b', o' + k * 12 + 8, none⟩ = some (.int .i64 (l'.getD k default).f8) := HC2.out k hlt 8 (by omega)
        have e9 : w.cell? ⟨b', o' + k * 12 + 9, none⟩ = some (.int .i64 (l'.getD k default).f9) := HC2.out k hlt 9 (by omega)
        have e10 : w.cell? ⟨b', o' + k * 12 + 10, none⟩ = some (.int .i64 (l'.getD k default).f10) := HC2.out k hlt 10 (by omega)
        have e11 : w.cell? ⟨b', o' + k * 12 + 11, none⟩ = some (.int .i64 (l'.getD k default).f11) := HC2.out k hlt 11 (by omega)
        have hstep : micEq (l.getD k default) (l'.getD k default) = true → ∀ i, i < k + 1 → micEq (l.getD i default) (l'.getD i default) = true := by
          intro q i hi
          by_cases hik : i = k
          · subst hik; exact q
          · exact HALL.out i (by omega)
        have hstop : micEq (l.getD k default) (l'.getD k default) = false → micsEq l l' n n = false := by
          intro q
          simp only [micsEq, Bool.and_eq_false_iff, decide_eq_false_iff_not]
          exact .inr fun h => by rw [h k hlt] at q; cases q
        have HS1 := Lib.hid hstep
        have HS2 := Lib.hid hstop
        clear hstep hstop
        generalize l.getD k default = x at *
        generalize l'.getD k default = y at *
        obtain ⟨a0, a1, a2, a3, a4, a5, a6, a7, a8, a9, a10, a11⟩ := x
        obtain ⟨b0, b1, b2, b3, b4, b5, b6, b7, b8, b9, b10, b11⟩ := y
        dsimp only at c0 c1 c2 c3 c4 c5 c6 c7 c8 c9 c10 c11 e0 e1 e2 e3 e4 e5 e6 e7 e8 e9 e10 e11
        cases hq : micEq ⟨a0, a1, a2, a3, a4, a5, a6, a7, a8, a9, a10, a11⟩ ⟨b0, b1, b2, b3, b4, b5, b6, b7, b8, b9, b10, b11⟩
        all_goals
          go_wp2
          (first | refine region_q2 (by kernel_rfl) (by kernel_rfl) ?_ | refine region_q (by kernel_rfl) (by kernel_rfl) ?_)
          repeat (quiet_step (fail))
          (refine wpQuiet_nil ?_; intro X nX)
          go_wp2
        · go_ret
          exact ⟨ret_bool (HS2.out hq).symm, (by repeat (first | exact Below.refl _ _ | refine Below.drew ?_ | refine Below.alloc ?_ (by first | exact Nat.le_refl _ | (simp; done) | (simp; omega) | omega) _ | refine Below.more ?_ (by first | exact Nat.le_refl _ | (simp; done) | (simp; omega) | omega) _ _ | refine Below.setCell ?_ (by first | exact Nat.le_refl _ | (simp; done) | (simp; omega) | omega) _ | assumption))⟩
        · obtain ⟨X', d', e⟩ := Below.ext (w := w) (w' := more ((more w X0 d).alloc (.cells #[.int .i64 a0, .int .i64 a1, .int .i64 a2, .int .i64 a3, .int .i64 a4, .int .i64 a5, .int .i64 a6, .int .i64 a7, .int .i64 a8, .int .i64 a9, .int .i64 a10, .int .i64 a11] 45)) X nX) (by repeat (first | exact Below.refl _ _ | refine Below.drew ?_ | refine Below.alloc ?_ (by first | exact Nat.le_refl _ | (simp; done) | (simp; omega) | omega) _ | refine Below.more ?_ (by first | exact Nat.le_refl _ | (simp; done) | (simp; omega) | omega) _ _ | refine Below.setCell ?_ (by first | exact Nat.le_refl _ | (simp; done) | (simp; omega) | omega) _ | assumption))
          exact ⟨⟨k + 1, d', X', by omega, rfl, HS1.out hq, e⟩, by simp only [intOf]; omega⟩
      · have hk' : k = n := by omega
        have hfin : micsEq l l' n n = true := by
          simp only [micsEq, decide_true, Bool.true_and, decide_eq_true_eq]
          intro i hi; exact HALL.out i (by omega)
        have HK := Lib.hid hk'
        have HF := Lib.hid hfin
        clear hk' hfin
        go_wp2
        go_ret
        exact ⟨ret_bool HF.out.symm, (by repeat (first | exact Below.refl _ _ | refine Below.drew ?_ | refine Below.alloc ?_ (by first | exact Nat.le_refl _ | (simp; done) | (simp; omega) | omega) _ | refine Below.more ?_ (by first | exact Nat.le_refl _ | (simp; done) | (simp; omega) | omega) _ _ | refine Below.setCell ?_ (by first | exact Nat.le_refl _ | (simp; done) | (simp; omega) | omega) _ | assumption))⟩
  · have hb0 : ((n : Int) != (n' : Int)) = true := by rw [bne_iff_ne]; omega
    have hfin : micsEq l l' n n' = false := by simp [micsEq, hnn]
    have HF := Lib.hid hfin
    clear hfin hnn
    go_enter Try.func34, Try.ntmps34
    go_wp2
    go_ret
    exact ⟨ret_bool HF.out.symm, (by repeat (first | exact Below.refl _ _ | refine Below.drew ?_ | refine Below.alloc ?_ (by first | exact Nat.le_refl _ | (simp; done) | (simp; omega) | omega) _ | refine Below.more ?_ (by first | exact Nat.le_refl _ | (simp; done) | (simp; omega) | omega) _ _ | refine Below.setCell ?_ (by first | exact Nat.le_refl _ | (simp; done) | (simp; omega) | omega) _ | assumption))⟩
theorem impl_SameMicropolygons_c (a : Option Addr) (cap : Nat) (l : List MicropolygonD) (n : Nat) (a' : Option Addr) (cap' : Nat) (l' : List MicropolygonD) (n' : Nat) (_ : Hid (l.length = n)) (_ : Hid (l'.length = n')) (w : World) (hr : Sl w a 12 n (MicropolygonD.at l)) (hr' : Sl w a' 12 n' (MicropolygonD.at l')) (hn : n ≤ 1048576) (hn' : n' ≤ 1048576) :
    Calls Try.prog 36 #[.slice a n cap, .slice a' n' cap'] w fun e w' => e = .returned (.bool (micsEq l l' n n')) ∧ Below w.heap.size w w' := by
  have HR := Lib.hid hr
  have HR' := Lib.hid hr'
  clear hr hr'
  go_enter Try.func36, Try.ntmps36
  go_wp2_with (go_at_call 77; refine (equal_mics _ _ _ _ l l' _ _ _ HR.out HR'.out hn hn').mono ?_; rintro e wn ⟨rfl, hbn⟩; obtain ⟨X, nX, rfl⟩ := Below.ext hbn; clear hbn)
  go_ret
  exact ⟨rfl, (by repeat (first | exact Below.refl _ _ | refine Below.drew ?_ | refine Below.alloc ?_ (by first | exact Nat.le_refl _ | (simp; done) | (simp; omega) | omega) _ | refine Below.more ?_ (by first | exact Nat.le_refl _ | (simp; done) | (simp; omega) | omega) _ _ | refine Below.setCell ?_ (by first | exact Nat.le_refl _ | (simp; done) | (simp; omega) | omega) _ | assumption))⟩
theorem spec_SameMicropolygons_c (a : Option Addr) (cap : Nat) (l : List MicropolygonD) (n : Nat) (a' : Option Addr) (cap' : Nat) (l' : List MicropolygonD) (n' : Nat) (_ : Hid (l.length = n)) (_ : Hid (l'.length = n')) (w : World) (hr : Sl w a 12 n (MicropolygonD.at l)) (hr' : Sl w a' 12 n' (MicropolygonD.at l')) (hn : n ≤ 1048576) (hn' : n' ≤ 1048576) :
    Calls Try.prog 34 #[.slice a n cap, .slice a' n' cap'] w fun e w' => e = .returned (.bool (micsEq l l' n n')) ∧ Below w.heap.size w w' :=
  spec_SameMicropolygons_core a a' cap cap' l l' n n' w hr hr' hn hn'
end Go.Proofs.Ytkdkdejgajcneaa
