/- Contracts of what the laws do with slices of Micropolygon. -/
import Derived.Test.YtkdkdejgajcneaaTrod
import Derived.Test.YtkdkdejgajcneaaRecs
import Derived.Test.YtkdkdejgajcneaaLawFlipTriangle
namespace Go.Proofs.Ytkdkdejgajcneaa
open Go.RowKit
set_option linter.unusedVariables false
structure MicropolygonD where
  f0 : Int
  f1 : Int
  f2 : Int
  f3 : Int
  f4 : Int
  f5 : Int
  f6 : Int
  f7 : Int
  f8 : Int
  f9 : Int
  f10 : Int
  f11 : Int
instance : Inhabited MicropolygonD := ⟨⟨0, 0, 0, 0, 0, 0, 0, 0, 0, 0, 0, 0⟩⟩
@[reducible] def MicropolygonD.cells (x : MicropolygonD) : List Value := [.int .i64 x.f0, .int .i64 x.f1, .int .i64 x.f2, .int .i64 x.f3, .int .i64 x.f4, .int .i64 x.f5, .int .i64 x.f6, .int .i64 x.f7, .int .i64 x.f8, .int .i64 x.f9, .int .i64 x.f10, .int .i64 x.f11]
def MicropolygonD.at (l : List MicropolygonD) (i : Nat) : List Value := (l.getD i default).cells
theorem MicropolygonD.at_len (l : List MicropolygonD) (i : Nat) : (MicropolygonD.at l i).length = 12 := rfl
theorem info_Micropolygon : (Try.prog.info? 45).map (fun i => (i.zero, i.size, i.bytes)) = some (some (.agg #[.int .i64 0, .int .i64 0, .int .i64 0, .int .i64 0, .int .i64 0, .int .i64 0, .int .i64 0, .int .i64 0, .int .i64 0, .int .i64 0, .int .i64 0, .int .i64 0]), 12, 96) := by kernel_rfl
set_option maxRecDepth 100000 in
theorem toMicropolygon_c (x : MicropolygonD) (w : World) : Calls Try.prog 76 #[.agg ⟨x.cells⟩] w fun e w' => e = .returned (.agg ⟨x.cells⟩) ∧ Below w.heap.size w w' := by
  obtain ⟨f0, f1, f2, f3, f4, f5, f6, f7, f8, f9, f10, f11⟩ := x
  go_enter Try.func76, Try.ntmps76
  go_wp2_with (go_at_call 45; refine (toTriangle_c _ _ _ _ _ _ _ _ _ _).mono ?_; rintro e wn ⟨rfl, hbn⟩; obtain ⟨X, nX, rfl⟩ := Below.ext hbn; clear hbn)
  exact bodyPost_ret (v := .agg ⟨MicropolygonD.cells ⟨f0, f1, f2, f3, f4, f5, f6, f7, f8, f9, f10, f11⟩⟩) (by simp [results, Try.results76, go_sem]) rfl ⟨rfl, (by repeat (first | exact Below.refl _ _ | refine Below.drew ?_ | refine Below.alloc ?_ (by first | exact Nat.le_refl _ | (simp; done) | (simp; omega) | omega) _ | refine Below.more ?_ (by first | exact Nat.le_refl _ | (simp; done) | (simp; omega) | omega) _ _ | refine Below.setCell ?_ (by first | exact Nat.le_refl _ | (simp; done) | (simp; omega) | omega) _ | assumption))⟩
set_option maxRecDepth 100000 in
theorem make_Micropolygon (n : Nat) (hn : n ≤ 1048576) (w : World) : ∃ arr : List Value, arr.length = n * 12 ∧ (Instr.makeSlice 34 (.int .i64 (n : Int)) (.int .i64 (n : Int))).run Try.prog w = .ok (.slice (some ⟨w.heap.size, 0, none⟩) n n) (w.alloc (.cells ⟨arr⟩ 45)) := by
  obtain ⟨i0, hi, hz0, hz1, hz2⟩ := info_parts info_Micropolygon
  have h := run_make w 34 45 i0 _ Try.underlying34 hi hz0 .i64 .i64 (n : Int) (n : Int) (by omega) (by omega) (by rw [hz2]; omega) (by omega)
  rw [h]
  simp only [Int.toNat_natCast, hz1]
  refine ⟨(madeCells _ (n * 12)).toList, ?_, rfl⟩
  rw [Array.length_toList, size_madeCells]
set_option maxRecDepth 100000 in
set_option maxHeartbeats 1000000 in
theorem toMicropolygonS_k (a : Option Addr) (cap : Nat) (l : List MicropolygonD) (n : Nat) (w : World) (hr : Sl w a 12 n (MicropolygonD.at l)) (hn : n ≤ 1048576) :
    Calls Try.prog 35 #[.slice a n cap] w (GivesC w 12 n (MicropolygonD.at l)) := by
  obtain ⟨arr0, ha0, hmk⟩ := make_Micropolygon n hn w
  have HR := Lib.hid hr
  have HA := Lib.hid ha0
  clear hr ha0
  go_enter Try.func35, Try.ntmps35
  go_wp2
  go_loopw [4] (fun i wr => ∃ (k : Nat) (arr : List Value) (X : Array Obj) (d : Nat), k ≤ n ∧ i = .int .i64 k ∧ Filled arr 12 n k (MicropolygonD.at l) ∧ wr = more (w.alloc (.cells ⟨arr⟩ 45)) X d) (fun i _ => n - (intOf i).toNat)
  case atStart => exact ⟨0, arr0, #[], _, by omega, rfl, .start HA.out, more_self' _⟩
  case round =>
    obtain ⟨k, arr, X, d, hk, rfl, hf, rfl⟩ := hrel
    have HF := Lib.hid hf
    clear hf
    by_cases hlt : k < n
    · have hk1 : (k : Int) < (n : Int) := by omega
      obtain ⟨b, o, rfl, hb, hc⟩ := HR.out (by omega)
      have HC := Lib.hid hc
      clear hc
      have hrow := row_lt (s := 12) (Nat.lt_succ_self k) (show k + 1 ≤ n from hlt)
      have g0 : k * 12 < arr.length := by rw [HF.out.1]; omega
      have g1 : k * 12 + 1 < arr.length := by rw [HF.out.1]; omega
      have g2 : k * 12 + 2 < arr.length := by rw [HF.out.1]; omega
      have g3 : k * 12 + 3 < arr.length := by rw [HF.out.1]; omega
      have g4 : k * 12 + 4 < arr.length := by rw [HF.out.1]; omega
      have g5 : k * 12 + 5 < arr.length := by rw [HF.out.1]; omega
      have g6 : k * 12 + 6 < arr.length := by rw [HF.out.1]; omega
      have g7 : k * 12 + 7 < arr.length := by rw [HF.out.1]; omega
      have g8 : k * 12 + 8 < arr.length := by rw [HF.out.1]; omega
      have g9 : k * 12 + 9 < arr.length := by rw [HF.out.1]; omega
      have g10 : k * 12 + 10 < arr.length := by rw [HF.out.1]; omega
      have g11 : k * 12 + 11 < arr.length := by rw [HF.out.1]; omega
      have hat : MicropolygonD.at l k = (l.getD k default).cells := rfl
      have c0 : w.cell? ⟨b, o + k * 12, none⟩ = some (.int .i64 (l.getD k default).f0) := HC.out k hlt 0 (by omega)
      have c1 : w.cell? ⟨b, o + k * 12 + 1, none⟩ = some (.int .i64 (l.getD k default).f1) := HC.out k hlt 1 (by omega)
      have c2 : w.cell? ⟨b, o + k * 12 + 2, none⟩ = some (.int .i64 (l.getD k default).f2) := HC.out k hlt 2 (by omega)
      have c3 : w.cell? ⟨b, o + k * 12 + 3, none⟩ = some (.int .i64 (l.getD k default).f3) := HC.out k hlt 3 (by omega)
      have c4 : w.cell? ⟨b, o + k * 12 + 4, none⟩ = some (.int .i64 (l.getD k default).f4) := HC.out k hlt 4 (by omega)
      have c5 : w.cell? ⟨b, o + k * 12 + 5, none⟩ = some (.int .i64 (l.getD k default).f5) := HC.out k hlt 5 (by omega)
      have c6 : w.cell? ⟨b, o + k * 12 + 6, none⟩ = some (.int .i64 (l.getD k default).f6) := HC.out k hlt 6 (by omega)
      have c7 : w.cell? ⟨b, o + k * 12 + 7, none⟩ = some (.int .i64 (l.getD k default).f7) := HC.out k hlt 7 (by omega)
      have c8 : w.cell? ⟨b, o + k * 12 + 8, none⟩ = some (.int .i64 (l.getD k default).f8) := HC.out k hlt 8 (by omega)
      have c9 : w.cell? ⟨b, o + k * 12 + 9, none⟩ = some (.int .i64 (l.getD k default).f9) := HC.out k hlt 9 (by omega)
      have c10 : w.cell? ⟨b, o + k * 12 + 10, none⟩ = some (.int .i64 (l.getD k default).f10) := HC.out k hlt 10 (by omega)
      have c11 : w.cell? ⟨b, o + k * 12 + 11, none⟩ = some (.int .i64 (l.getD k default).f11) := HC.out k hlt 11 (by omega)
      generalize l.getD k default = x at *
      have HT := Lib.hid hat
      clear hat hrow
      go_wp2_with (go_at_call 76; refine (toMicropolygon_c x _).mono ?_; rintro e wn ⟨rfl, hbn⟩; obtain ⟨X, nX, rfl⟩ := Below.ext hbn; clear hbn)
      go_roundw
      case rel => exact ⟨k + 1, setRow arr (k * 12) x.cells, _, _, by omega, by go_num, HF.out.next hlt rfl (fun j _ => by rw [HT.out]), rfl⟩
      case measure => simp [intOf]; omega
    · have hk' : k = n := by omega
      have HK := Lib.hid hk'
      clear hk'
      go_wp2
      go_ret
      have hff := HF.out
      rw [HK.out] at hff
      exact ⟨_, _, rfl, ow_new (e := 45) (by rw [heap_more _ (by simp), heap_alloc_new]) (Nat.le_refl _) (by simp; omega) (by rw [hff.1]; exact Nat.le_refl _) hff.2, (by repeat (first | exact Below.refl _ _ | refine Below.drew ?_ | refine Below.alloc ?_ (by first | exact Nat.le_refl _ | (simp; done) | (simp; omega) | omega) _ | refine Below.more ?_ (by first | exact Nat.le_refl _ | (simp; done) | (simp; omega) | omega) _ _ | refine Below.setCell ?_ (by first | exact Nat.le_refl _ | (simp; done) | (simp; omega) | omega) _ | assumption)), Nat.le_refl _⟩
theorem toMicropolygonS_c (a : Option Addr) (cap : Nat) (l : List MicropolygonD) (n : Nat) (w : World) (hr : Sl w a 12 n (MicropolygonD.at l)) (hn : n ≤ 1048576) :
    Calls Try.prog 35 #[.slice a n cap] w (Gives w 12 n (MicropolygonD.at l)) := (toMicropolygonS_k a cap l n w hr hn).mono fun _ _ h => h.gives
set_option maxRecDepth 100000 in
theorem eqMicropolygon_c (x : MicropolygonD) (w : World) : Calls Try.prog 74 #[.agg ⟨x.cells⟩, .agg ⟨x.cells⟩] w fun e w' => e = .returned (.bool true) ∧ Below w.heap.size w w' := by
  obtain ⟨f0, f1, f2, f3, f4, f5, f6, f7, f8, f9, f10, f11⟩ := x
  go_enter Try.func74, Try.ntmps74
  go_wp2_with (go_at_call 47; refine (eqTriangle_c _ _ _ _ _ _ _ _ _ _).mono ?_; rintro e wn ⟨rfl, hbn⟩; obtain ⟨X, nX, rfl⟩ := Below.ext hbn; clear hbn)
  all_goals (go_ret; exact ⟨rfl, (by repeat (first | exact Below.refl _ _ | refine Below.drew ?_ | refine Below.alloc ?_ (by first | exact Nat.le_refl _ | (simp; done) | (simp; omega) | omega) _ | refine Below.more ?_ (by first | exact Nat.le_refl _ | (simp; done) | (simp; omega) | omega) _ _ | refine Below.setCell ?_ (by first | exact Nat.le_refl _ | (simp; done) | (simp; omega) | omega) _ | assumption))⟩)
set_option maxRecDepth 100000 in
set_option maxHeartbeats 1000000 in
theorem eqMicropolygonS_c (a a' : Option Addr) (cap cap' : Nat) (l : List MicropolygonD) (n : Nat) (w : World) (hr : Sl w a 12 n (MicropolygonD.at l)) (hr' : Sl w a' 12 n (MicropolygonD.at l)) (hn : n ≤ 9223372036854775807) :
    Calls Try.prog 27 #[.slice a n cap, .slice a' n cap'] w fun e w' => e = .returned (.bool true) ∧ Below w.heap.size w w' := by
  have HR := Lib.hid hr
  have HR' := Lib.hid hr'
  clear hr hr'
  go_enter Try.func27, Try.ntmps27
  go_wp2
  go_loopw [5] (fun i wr => ∃ (k d : Nat) (X : Array Obj), k ≤ n ∧ i = .int .i64 k ∧ wr = more w X d) (fun i _ => n - (intOf i).toNat)
  case atStart => exact ⟨0, _, #[], by omega, rfl, more_self' w⟩
  case round =>
    obtain ⟨k, d, X0, hk, rfl, rfl⟩ := hrel
    by_cases hlt : k < n
    · have hk1 : (k : Int) < (n : Int) := by omega
      have hk0 : (0 : Int) ≤ (k : Int) := by omega
      obtain ⟨b, o, rfl, hb, hc⟩ := HR.out (by omega)
      have HC := Lib.hid hc
      clear hc
      obtain ⟨b', o', rfl, hb', hc'⟩ := HR'.out (by omega)
      have HC2 := Lib.hid hc'
      clear hc'
      have c0 : w.cell? ⟨b, o + k * 12, none⟩ = some (.int .i64 (l.getD k default).f0) := HC.out k hlt 0 (by omega)
      have c1 : w.cell? ⟨b, o + k * 12 + 1, none⟩ = some (.int .i64 (l.getD k default).f1) := HC.out k hlt 1 (by omega)
      have c2 : w.cell? ⟨b, o + k * 12 + 2, none⟩ = some (.int .i64 (l.getD k default).f2) := HC.out k hlt 2 (by omega)
      have c3 : w.cell? ⟨b, o + k * 12 + 3, none⟩ = some (.int .i64 (l.getD k default).f3) := HC.out k hlt 3 (by omega)
      have c4 : w.cell? ⟨b, o + k * 12 + 4, none⟩ = some (.int .i64 (l.getD k default).f4) := HC.out k hlt 4 (by omega)
      have c5 : w.cell? ⟨b, o + k * 12 + 5, none⟩ = some (.int .i64 (l.getD k default).f5) := HC.out k hlt 5 (by omega)
      have c6 : w.cell? ⟨b, o + k * 12 + 6, none⟩ = some (.int .i64 (l.getD k default).f6) := HC.out k hlt 6 (by omega)
      have c7 : w.cell? ⟨b, o + k * 12 + 7, none⟩ = some (.int .i64 (l.getD k default).f7) := HC.out k hlt 7 (by omega)
      have c8 : w.cell? ⟨b, o + k * 12 + 8, none⟩ = some (.int .i64 (l.getD k default).f8) := HC.out k hlt 8 (by omega)
      have c9 : w.cell? ⟨b, o + k * 12 + 9, none⟩ = some (.int .i64 (l.getD k default).f9) := HC.out k hlt 9 (by omega)
      have c10 : w.cell? ⟨b, o + k * 12 + 10, none⟩ = some (.int .i64 (l.getD k default).f10) := HC.out k hlt 10 (by omega)
      have c11 : w.cell? ⟨b, o + k * 12 + 11, none⟩ = some (.int .i64 (l.getD k default).f11) := HC.out k hlt 11 (by omega)
      have e0 : w.cell? ⟨b', o' + k * 12, none⟩ = some (.int .i64 (l.getD k default).f0) := HC2.out k hlt 0 (by omega)
      have e1 : w.cell? ⟨b', o' + k * 12 + 1, none⟩ = some (.int .i64 (l.getD k default).f1) := HC2.out k hlt 1 (by omega)
      have e2 : w.cell? ⟨b', o' + k * 12 + 2, none⟩ = some (.int .i64 (l.getD k default).f2) := HC2.out k hlt 2 (by omega)
      have e3 : w.cell? ⟨b', o' + k * 12 + 3, none⟩ = some (.int .i64 (l.getD k default).f3) := HC2.out k hlt 3 (by omega)
      have e4 : w.cell? ⟨b', o' + k * 12 + 4, none⟩ = some (.int .i64 (l.getD k default).f4) := HC2.out k hlt 4 (by omega)
      have e5 : w.cell? ⟨b', o' + k * 12 + 5, none⟩ = some (.int .i64 (l.getD k default).f5) := HC2.out k hlt 5 (by omega)
      have e6 : w.cell? ⟨b', o' + k * 12 + 6, none⟩ = some (.int .i64 (l.getD k default).f6) := HC2.out k hlt 6 (by omega)
      have e7 : w.cell? ⟨b', o' + k * 12 + 7, none⟩ = some (.int .i64 (l.getD k default).f7) := HC2.out k hlt 7 (by omega)
      have e8 : w.cell? ⟨b', o' + k * 12 + 8, none⟩ = some (.int .i64 (l.getD k default).f8) := HC2.out k hlt 8 (by omega)
      have e9 : w.cell? ⟨b', o' + k * 12 + 9, none⟩ = some (.int .i64 (l.getD k default).f9) := HC2.out k hlt 9 (by omega)
      have e10 : w.cell? ⟨b', o' + k * 12 + 10, none⟩ = some (.int .i64 (l.getD k default).f10) := HC2.out k hlt 10 (by omega)
      have e11 : w.cell? ⟨b', o' + k * 12 + 11, none⟩ = some (.int .i64 (l.getD k default).f11) := HC2.out k hlt 11 (by omega)
      generalize l.getD k default = x at *
      go_wp2
      (first | refine region_q2 (by kernel_rfl) (by kernel_rfl) ?_ | refine region_q (by kernel_rfl) (by kernel_rfl) ?_)
      repeat (quiet_step (fail))
      (refine wpQuiet_step (fun K hK => ?_); go_simp; refine ⟨_, fun zt => ext_below (eqMicropolygon_c x _), hK _ ?_⟩; clear hK K)
      repeat (quiet_step (fail))
      (refine wpQuiet_nil ?_; intro X nX)
      go_wp2
      go_roundw
      case rel => exact ⟨k + 1, _, _, by omega, by go_num, rfl⟩
      case measure => simp [intOf]; omega
    · go_wp2
      go_ret
      exact ⟨rfl, (by repeat (first | exact Below.refl _ _ | refine Below.drew ?_ | refine Below.alloc ?_ (by first | exact Nat.le_refl _ | (simp; done) | (simp; omega) | omega) _ | refine Below.more ?_ (by first | exact Nat.le_refl _ | (simp; done) | (simp; omega) | omega) _ _ | refine Below.setCell ?_ (by first | exact Nat.le_refl _ | (simp; done) | (simp; omega) | omega) _ | assumption))⟩
/-- What is left behind a slice's length. -/
def Micropolygon.szI (left : Int) (n : Nat) : Int := if left - n < 0 then -1 else left - n
theorem szMicropolygonS_c (a : Option Addr) (cap n : Nat) (left : Int) (w : World) (h0 : 0 ≤ left) (h1 : left ≤ 1048576) (hn : n ≤ 9223372036854775807) :
    Calls Try.prog 33 #[.slice a n cap, .int .i64 left] w fun e w' => e = .returned (.int .i64 (Micropolygon.szI left n)) ∧ w = w' := by
  by_cases hlt : left - n < 0
  · have hs : Micropolygon.szI left n = -1 := by unfold Micropolygon.szI; rw [if_pos hlt]
    have HS := Lib.hid hs
    clear hs
    go_enter Try.func33, Try.ntmps33
    go_wp2
    go_ret
    exact ⟨ret_int HS.out.symm, rfl⟩
  · have hs : Micropolygon.szI left n = left - n := by unfold Micropolygon.szI; rw [if_neg hlt]
    have HS := Lib.hid hs
    clear hs
    go_enter Try.func33, Try.ntmps33
    go_wp2
    go_ret
    exact ⟨ret_int HS.out.symm, rfl⟩
/-- The cells of an element that bears the marks. -/
def MicropolygonD.mks (l : List MicropolygonD) (k0 i : Nat) : List Value := [.int .i64 (l.getD i default).f0, .int .i64 (l.getD i default).f1, .int .i64 (l.getD i default).f2, .int .i64 (l.getD i default).f3, .int .i64 (l.getD i default).f4, .int .i64 (l.getD i default).f5, .int .i64 (l.getD i default).f6, .int .i64 (l.getD i default).f7, .int .i64 (l.getD i default).f8, .int .i64 ((k0 : Int) + (i : Int) * 3), .int .i64 ((k0 : Int) + (i : Int) * 3 + 1), .int .i64 ((k0 : Int) + (i : Int) * 3 + 1 + 1)]
theorem MicropolygonD.mks_len (l : List MicropolygonD) (k0 i : Nat) : (MicropolygonD.mks l k0 i).length = 12 := rfl
/-- The first m elements bear the marks, the others what they had. -/
def Micropolygon.Half (l : List MicropolygonD) (k0 n m : Nat) (arr : List Value) : Prop := arr.length ≥ n * 12 ∧ ∀ i, i < n → ∀ j, j < 12 → arr[i * 12 + j]? = (if i < m then MicropolygonD.mks l k0 i else MicropolygonD.at l i)[j]?
theorem Micropolygon.Half.next {l : List MicropolygonD} {k0 n m : Nat} {arr : List Value} (h : Micropolygon.Half l k0 n m arr) (hm : m < n) : Micropolygon.Half l k0 n (m + 1) ((List.set (List.set (List.set arr (m * 12 + 9) (.int .i64 ((k0 : Int) + (m : Int) * 3))) (m * 12 + 10) (.int .i64 ((k0 : Int) + (m : Int) * 3 + 1))) (m * 12 + 11) (.int .i64 ((k0 : Int) + (m : Int) * 3 + 1 + 1)))) := by
  have hrow := row_lt (s := 12) (Nat.lt_succ_self m) (show m + 1 ≤ n from hm)
  have hlen := h.1
  refine ⟨by simpa using h.1, fun i hi j hj => ?_⟩
  by_cases him : i = m
  · subst him
    rw [if_pos (by omega)]
    have h0 := h.2 i hi
    rw [if_neg (Nat.lt_irrefl i)] at h0
    obtain rfl | rfl | rfl | rfl | rfl | rfl | rfl | rfl | rfl | rfl | rfl | rfl : j = 0 ∨ j = 1 ∨ j = 2 ∨ j = 3 ∨ j = 4 ∨ j = 5 ∨ j = 6 ∨ j = 7 ∨ j = 8 ∨ j = 9 ∨ j = 10 ∨ j = 11 := by omega
    · (try simp only [Nat.mul_one]); (try simp only [Nat.add_zero])
      rw [List.getElem?_set_ne (by omega), List.getElem?_set_ne (by omega), List.getElem?_set_ne (by omega)]; have h00 := h0 0 (by omega); simp only [Nat.add_zero] at h00; rw [h00]; rfl
    · rw [List.getElem?_set_ne (by omega), List.getElem?_set_ne (by omega), List.getElem?_set_ne (by omega)]; rw [h0 1 (by omega)]; rfl
    · rw [List.getElem?_set_ne (by omega), List.getElem?_set_ne (by omega), List.getElem?_set_ne (by omega)]; rw [h0 2 (by omega)]; rfl
    · rw [List.getElem?_set_ne (by omega), List.getElem?_set_ne (by omega), List.getElem?_set_ne (by omega)]; rw [h0 3 (by omega)]; rfl
    · rw [List.getElem?_set_ne (by omega), List.getElem?_set_ne (by omega), List.getElem?_set_ne (by omega)]; rw [h0 4 (by omega)]; rfl
    · rw [List.getElem?_set_ne (by omega), List.getElem?_set_ne (by omega), List.getElem?_set_ne (by omega)]; rw [h0 5 (by omega)]; rfl
    · rw [List.getElem?_set_ne (by omega), List.getElem?_set_ne (by omega), List.getElem?_set_ne (by omega)]; rw [h0 6 (by omega)]; rfl
    · rw [List.getElem?_set_ne (by omega), List.getElem?_set_ne (by omega), List.getElem?_set_ne (by omega)]; rw [h0 7 (by omega)]; rfl
    · rw [List.getElem?_set_ne (by omega), List.getElem?_set_ne (by omega), List.getElem?_set_ne (by omega)]; rw [h0 8 (by omega)]; rfl
    · rw [List.getElem?_set_ne (by omega), List.getElem?_set_ne (by omega), List.getElem?_set_self (by first | omega | (simp only [List.length_set]; omega))]; rfl
    · rw [List.getElem?_set_ne (by omega), List.getElem?_set_self (by first | omega | (simp only [List.length_set]; omega))]; rfl
    · rw [List.getElem?_set_self (by first | omega | (simp only [List.length_set]; omega))]; rfl
  · have e : (if i < m + 1 then MicropolygonD.mks l k0 i else MicropolygonD.at l i) = (if i < m then MicropolygonD.mks l k0 i else MicropolygonD.at l i) := by
      by_cases h1 : i < m
      · rw [if_pos h1, if_pos (by omega)]
      · rw [if_neg h1, if_neg (by omega)]
    rw [e, ← h.2 i hi j hj]
    have hne : i * 12 + 12 ≤ m * 12 ∨ m * 12 + 12 ≤ i * 12 := by
      rcases Nat.lt_or_gt_of_ne him with q | q
      · exact .inl (by have := Nat.mul_le_mul_right 12 (show i + 1 ≤ m by omega); omega)
      · exact .inr (by have := Nat.mul_le_mul_right 12 (show m + 1 ≤ i by omega); omega)
    rw [List.getElem?_set_ne (by omega), List.getElem?_set_ne (by omega), List.getElem?_set_ne (by omega)]
set_option maxRecDepth 100000 in
set_option maxHeartbeats 1000000 in
theorem markMicropolygonS_c (a : Option Addr) (cap : Nat) (l : List MicropolygonD) (n k0 lo hi : Nat) (w : World) (hown : Ow w lo hi a 12 n (MicropolygonD.at l)) (hn : n ≤ 100000000) (hk0 : k0 ≤ 100000000000000) :
    Calls Try.prog 28 #[.slice a n cap, .int .i64 (k0 : Int)] w fun e w' => e = .returned (.int .i64 ((k0 + n * 3 : Nat) : Int)) ∧ Ow w' lo hi a 12 n (MicropolygonD.mks l k0) ∧ Chg lo hi w w' := by
  by_cases h00 : n = 0
  · subst h00
    clear hown
    go_enter Try.func28, Try.ntmps28
    go_wp2
    go_rounds 1
    go_ret
    exact ⟨ret_int (by simp), Ow.none, Chg.refl _ _ _⟩
  · obtain ⟨g, arr0, e, rfl, hlo, hhi, hg, hl, hx⟩ := hown (by omega)
    have hgs := (Array.getElem?_eq_some_iff.1 hg).1
    obtain ⟨w0, rfl⟩ : ∃ w0, putB w0 g arr0 e = w := ⟨w, putB_self hg⟩
    simp only [size_putB] at hgs
    have HX := Lib.hid hx
    have HO := Lib.hid hown
    clear hown hg hx
    have HL := Lib.hid hl
    clear hl
    go_enter Try.func28, Try.ntmps28
    go_wp2
    go_loopw [1, 5] (fun k i wr => ∃ (m : Nat) (arr : List Value) (X : Array Obj) (d : Nat), m ≤ n ∧ i = .int .i64 m ∧ k = .int .i64 ((k0 + m * 3 : Nat) : Int) ∧ Micropolygon.Half l k0 n m arr ∧ wr = more (putB w0 g arr e) X d) (fun _ i _ => n - (intOf i).toNat)
    case atStart => exact ⟨0, arr0, #[], _, by omega, rfl, by simp, ⟨HL.out, fun i hi j hj => by rw [if_neg (by omega)]; exact HX.out i hi j hj⟩, more_self' _⟩
    case round =>
      obtain ⟨m, arr, X, d, hm, rfl, rfl, hf, rfl⟩ := hrel
      have HF := Lib.hid hf
      clear hf
      by_cases hlt : m < n
      · have hk1 : (m : Int) < (n : Int) := by omega
        have hk0' : (0 : Int) ≤ (m : Int) := by omega
        have hrow := row_lt (s := 12) (Nat.lt_succ_self m) (show m + 1 ≤ n from hlt)
        have harr := HF.out.1
        have g0 : m * 12 < arr.length := by omega
        have g1 : m * 12 + 1 < arr.length := by omega
        have g2 : m * 12 + 2 < arr.length := by omega
        have g3 : m * 12 + 3 < arr.length := by omega
        have g4 : m * 12 + 4 < arr.length := by omega
        have g5 : m * 12 + 5 < arr.length := by omega
        have g6 : m * 12 + 6 < arr.length := by omega
        have g7 : m * 12 + 7 < arr.length := by omega
        have g8 : m * 12 + 8 < arr.length := by omega
        have g9 : m * 12 + 9 < arr.length := by omega
        have g10 : m * 12 + 10 < arr.length := by omega
        have g11 : m * 12 + 11 < arr.length := by omega
        clear hrow harr
        go_wp2
        refine ⟨⟨m + 1, (List.set (List.set (List.set arr (m * 12 + 9) (.int .i64 ((k0 : Int) + (m : Int) * 3))) (m * 12 + 10) (.int .i64 ((k0 : Int) + (m : Int) * 3 + 1))) (m * 12 + 11) (.int .i64 ((k0 : Int) + (m : Int) * 3 + 1 + 1))), _, _, by omega, by go_num, by go_num, HF.out.next hlt, rfl⟩, by simp only [intOf]; omega⟩
      · have hk' : m = n := by omega
        have HK := Lib.hid hk'
        clear hk'
        go_wp2
        go_ret
        have hmm := HF.out
        rw [HK.out] at hmm
        refine ⟨ret_int (by rw [HK.out]), ow_new (e := e) (arr := arr) (by rw [heap_more _ (by simpa using hgs), heap_putB hgs]) hlo hhi hmm.1 (fun i hi j hj => by rw [hmm.2 i hi j hj, if_pos hi]), ?_⟩
        refine ⟨rfl, rfl, rfl, by simp, fun k hk ho => ?_⟩
        have hk2 : k < w0.heap.size := by simpa using hk
        rw [heap_more k (by simpa using hk2), heap_putB_other k (by omega), heap_putB_other k (by omega)]
set_option maxRecDepth 100000 in
set_option maxHeartbeats 1000000 in
theorem heldMicropolygonS_c (a : Option Addr) (cap : Nat) (l : List MicropolygonD) (n k0 : Nat) (w : World) (hr : Sl w a 12 n (MicropolygonD.mks l k0)) (hn : n ≤ 100000000) (hk0 : k0 ≤ 100000000000000) :
    Calls Try.prog 29 #[.slice a n cap, .int .i64 (k0 : Int)] w fun e w' => e = .returned (.int .i64 ((k0 + n * 3 : Nat) : Int)) ∧ Below w.heap.size w w' := by
  have HR := Lib.hid hr
  clear hr
  go_enter Try.func29, Try.ntmps29
  go_wp2
  go_loopw [1, 5] (fun k i wr => ∃ (m : Nat) (X : Array Obj) (d : Nat), m ≤ n ∧ i = .int .i64 m ∧ k = .int .i64 ((k0 + m * 3 : Nat) : Int) ∧ wr = more w X d) (fun _ i _ => n - (intOf i).toNat)
  case atStart => exact ⟨0, #[], _, by omega, rfl, by simp, more_self' _⟩
  case round =>
    obtain ⟨m, X, d, hm, rfl, rfl, rfl⟩ := hrel
    by_cases hlt : m < n
    · have hk1 : (m : Int) < (n : Int) := by omega
      have hk0' : (0 : Int) ≤ (m : Int) := by omega
      obtain ⟨b, o, rfl, hb, hc⟩ := HR.out (by omega)
      have HC := Lib.hid hc
      clear hc
      have c9 : w.cell? ⟨b, o + m * 12 + 9, none⟩ = some (.int .i64 ((k0 : Int) + (m : Int) * 3)) := HC.out m hlt 9 (by omega)
      have c10 : w.cell? ⟨b, o + m * 12 + 10, none⟩ = some (.int .i64 ((k0 : Int) + (m : Int) * 3 + 1)) := HC.out m hlt 10 (by omega)
      have c11 : w.cell? ⟨b, o + m * 12 + 11, none⟩ = some (.int .i64 ((k0 : Int) + (m : Int) * 3 + 1 + 1)) := HC.out m hlt 11 (by omega)
      go_wp2
      go_roundw
      case rel => exact ⟨m + 1, _, _, by omega, by go_num, by go_num, rfl⟩
      case measure => simp [intOf]; omega
    · have hk' : m = n := by omega
      have HK := Lib.hid hk'
      clear hk'
      go_wp2
      go_ret
      exact ⟨ret_int (by rw [HK.out]), (by repeat (first | exact Below.refl _ _ | refine Below.drew ?_ | refine Below.alloc ?_ (by first | exact Nat.le_refl _ | (simp; done) | (simp; omega) | omega) _ | refine Below.more ?_ (by first | exact Nat.le_refl _ | (simp; done) | (simp; omega) | omega) _ _ | refine Below.setCell ?_ (by first | exact Nat.le_refl _ | (simp; done) | (simp; omega) | omega) _ | assumption))⟩
set_option maxRecDepth 100000 in
theorem open_MicropolygonS {H : Type} {enc : TypeId × Value → H} {W : World} {v : Value} {d : DataW H} {p : List MemPlace} {base : Nat} (k : Value.okWide Try.prog W .any base 64 v) (h : DataW.Trod enc Try.prog W 0 (fun _ => true) true 64 v d p) :
    ∃ (a : Option Addr) (cap : Nat) (l : List MicropolygonD) (n : Nat), v = .slice a n cap ∧ Hid (l.length = n) ∧ Hid (Sl W a 12 n (MicropolygonD.at l)) ∧ n ≤ 9223372036854775807 := by
  obtain ⟨a0, n0, cap0, rfl⟩ := WideShapes.okWide_slice Try.underlying64 k
  obtain ⟨fuel, hf⟩ := h
  obtain ⟨a, n, cap, e, hn, hx⟩ := trod_recs (e := 115) (s := 12) (d := 8) (ts := [3, 3, 3, 3, 3, 3, 3, 3, 3, 3, 3, 3]) Try.underlying64 (by kernel_rfl) (by decide) (by decide +kernel) rfl (v := .slice a0 n0 cap0) (by simpa [Value.cells] using hf)
  obtain ⟨rfl, rfl, rfl⟩ : a = a0 ∧ n = n0 ∧ cap = cap0 := by simp at e; exact ⟨e.1.symm, e.2.1.symm, e.2.2.symm⟩
  unfold maxLen at hn
  by_cases h0 : n = 0
  · subst h0
    exact ⟨_, _, [], 0, rfl, Lib.hid rfl, Lib.hid Sl.none, by omega⟩
  · obtain ⟨b, o, rfl, hb, hc⟩ := hx (by omega)
    have get : ∀ i, i < n → ((List.range n).map fun i => (⟨intC (W.cell? ⟨b, o + i * 12 + 0, none⟩), intC (W.cell? ⟨b, o + i * 12 + 1, none⟩), intC (W.cell? ⟨b, o + i * 12 + 2, none⟩), intC (W.cell? ⟨b, o + i * 12 + 3, none⟩), intC (W.cell? ⟨b, o + i * 12 + 4, none⟩), intC (W.cell? ⟨b, o + i * 12 + 5, none⟩), intC (W.cell? ⟨b, o + i * 12 + 6, none⟩), intC (W.cell? ⟨b, o + i * 12 + 7, none⟩), intC (W.cell? ⟨b, o + i * 12 + 8, none⟩), intC (W.cell? ⟨b, o + i * 12 + 9, none⟩), intC (W.cell? ⟨b, o + i * 12 + 10, none⟩), intC (W.cell? ⟨b, o + i * 12 + 11, none⟩)⟩ : MicropolygonD)).getD i default = (⟨intC (W.cell? ⟨b, o + i * 12 + 0, none⟩), intC (W.cell? ⟨b, o + i * 12 + 1, none⟩), intC (W.cell? ⟨b, o + i * 12 + 2, none⟩), intC (W.cell? ⟨b, o + i * 12 + 3, none⟩), intC (W.cell? ⟨b, o + i * 12 + 4, none⟩), intC (W.cell? ⟨b, o + i * 12 + 5, none⟩), intC (W.cell? ⟨b, o + i * 12 + 6, none⟩), intC (W.cell? ⟨b, o + i * 12 + 7, none⟩), intC (W.cell? ⟨b, o + i * 12 + 8, none⟩), intC (W.cell? ⟨b, o + i * 12 + 9, none⟩), intC (W.cell? ⟨b, o + i * 12 + 10, none⟩), intC (W.cell? ⟨b, o + i * 12 + 11, none⟩)⟩ : MicropolygonD) := by
      intro i hi
      rw [List.getD_eq_getElem?_getD, List.getElem?_map, List.getElem?_range hi]; rfl
    refine ⟨_, _, (List.range n).map fun i => (⟨intC (W.cell? ⟨b, o + i * 12 + 0, none⟩), intC (W.cell? ⟨b, o + i * 12 + 1, none⟩), intC (W.cell? ⟨b, o + i * 12 + 2, none⟩), intC (W.cell? ⟨b, o + i * 12 + 3, none⟩), intC (W.cell? ⟨b, o + i * 12 + 4, none⟩), intC (W.cell? ⟨b, o + i * 12 + 5, none⟩), intC (W.cell? ⟨b, o + i * 12 + 6, none⟩), intC (W.cell? ⟨b, o + i * 12 + 7, none⟩), intC (W.cell? ⟨b, o + i * 12 + 8, none⟩), intC (W.cell? ⟨b, o + i * 12 + 9, none⟩), intC (W.cell? ⟨b, o + i * 12 + 10, none⟩), intC (W.cell? ⟨b, o + i * 12 + 11, none⟩)⟩ : MicropolygonD), n, rfl, Lib.hid (by simp), Lib.hid (fun _ => ⟨b, o, rfl, hb, fun i hi j hj => ?_⟩), hn⟩
    · unfold MicropolygonD.at
      rw [get i hi]
      obtain ⟨u, m, y, hu, ht⟩ := hc i hi j hj
      rw [hu]
      obtain rfl | rfl | rfl | rfl | rfl | rfl | rfl | rfl | rfl | rfl | rfl | rfl : j = 0 ∨ j = 1 ∨ j = 2 ∨ j = 3 ∨ j = 4 ∨ j = 5 ∨ j = 6 ∨ j = 7 ∨ j = 8 ∨ j = 9 ∨ j = 10 ∨ j = 11 := by omega
      · obtain ⟨z, e1, _, _⟩ := DataW.trod_int Try.underlying3 ht; obtain rfl : u = .int .i64 z := by simpa using e1
        simp only [hu, intC]; rfl
      · obtain ⟨z, e1, _, _⟩ := DataW.trod_int Try.underlying3 ht; obtain rfl : u = .int .i64 z := by simpa using e1
        simp only [hu, intC]; rfl
      · obtain ⟨z, e1, _, _⟩ := DataW.trod_int Try.underlying3 ht; obtain rfl : u = .int .i64 z := by simpa using e1
        simp only [hu, intC]; rfl
      · obtain ⟨z, e1, _, _⟩ := DataW.trod_int Try.underlying3 ht; obtain rfl : u = .int .i64 z := by simpa using e1
        simp only [hu, intC]; rfl
      · obtain ⟨z, e1, _, _⟩ := DataW.trod_int Try.underlying3 ht; obtain rfl : u = .int .i64 z := by simpa using e1
        simp only [hu, intC]; rfl
      · obtain ⟨z, e1, _, _⟩ := DataW.trod_int Try.underlying3 ht; obtain rfl : u = .int .i64 z := by simpa using e1
        simp only [hu, intC]; rfl
      · obtain ⟨z, e1, _, _⟩ := DataW.trod_int Try.underlying3 ht; obtain rfl : u = .int .i64 z := by simpa using e1
        simp only [hu, intC]; rfl
      · obtain ⟨z, e1, _, _⟩ := DataW.trod_int Try.underlying3 ht; obtain rfl : u = .int .i64 z := by simpa using e1
        simp only [hu, intC]; rfl
      · obtain ⟨z, e1, _, _⟩ := DataW.trod_int Try.underlying3 ht; obtain rfl : u = .int .i64 z := by simpa using e1
        simp only [hu, intC]; rfl
      · obtain ⟨z, e1, _, _⟩ := DataW.trod_int Try.underlying3 ht; obtain rfl : u = .int .i64 z := by simpa using e1
        simp only [hu, intC]; rfl
      · obtain ⟨z, e1, _, _⟩ := DataW.trod_int Try.underlying3 ht; obtain rfl : u = .int .i64 z := by simpa using e1
        simp only [hu, intC]; rfl
      · obtain ⟨z, e1, _, _⟩ := DataW.trod_int Try.underlying3 ht; obtain rfl : u = .int .i64 z := by simpa using e1
        simp only [hu, intC]; rfl

end Go.Proofs.Ytkdkdejgajcneaa
