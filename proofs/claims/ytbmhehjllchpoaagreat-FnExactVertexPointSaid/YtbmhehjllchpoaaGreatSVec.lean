/- Contracts of what the laws do with slices of Vec. -/
import Derived.Test.YtbmhehjllchpoaaGreatTrod
import Derived.Test.YtbmhehjllchpoaaGreatRecs
namespace Go.Proofs.YtbmhehjllchpoaaGreat
open Go.RowKit
set_option linter.unusedVariables false
structure VecD where
  f0 : Int
  f1 : Int
  f2 : Int
instance : Inhabited VecD := ⟨⟨0, 0, 0⟩⟩
@[reducible] def VecD.cells (x : VecD) : List Value := [.int .i64 x.f0, .int .i64 x.f1, .int .i64 x.f2]
def VecD.at (l : List VecD) (i : Nat) : List Value := (l.getD i default).cells
theorem VecD.at_len (l : List VecD) (i : Nat) : (VecD.at l i).length = 3 := rfl
theorem info_Vec : (Tryz.prog.info? 28).map (fun i => (i.zero, i.size, i.bytes)) = some (some (.agg #[.int .i64 0, .int .i64 0, .int .i64 0]), 3, 24) := by kernel_rfl
set_option maxRecDepth 100000 in
theorem toVec_c (x : VecD) (w : World) : Calls Tryz.prog 36 #[.agg ⟨x.cells⟩] w fun e w' => e = .returned (.agg ⟨x.cells⟩) ∧ Below w.heap.size w w' := by
  obtain ⟨f0, f1, f2⟩ := x
  go_enter Tryz.func36, Tryz.ntmps36
  go_wp2
  go_returns
  exact ⟨rfl, (by repeat (first | exact Below.refl _ _ | refine Below.drew ?_ | refine Below.alloc ?_ (by first | exact Nat.le_refl _ | (simp; done) | (simp; omega) | omega) _ | refine Below.more ?_ (by first | exact Nat.le_refl _ | (simp; done) | (simp; omega) | omega) _ _ | refine Below.setCell ?_ (by first | exact Nat.le_refl _ | (simp; done) | (simp; omega) | omega) _ | assumption))⟩
set_option maxRecDepth 100000 in
theorem make_Vec (n : Nat) (hn : n ≤ 1048576) (w : World) : ∃ arr : List Value, arr.length = n * 3 ∧ (Instr.makeSlice 30 (.int .i64 (n : Int)) (.int .i64 (n : Int))).run Tryz.prog w = .ok (.slice (some ⟨w.heap.size, 0, none⟩) n n) (w.alloc (.cells ⟨arr⟩ 28)) := by
  obtain ⟨i0, hi, hz0, hz1, hz2⟩ := info_parts info_Vec
  have h := run_make w 30 28 i0 _ Tryz.underlying30 hi hz0 .i64 .i64 (n : Int) (n : Int) (by omega) (by omega) (by rw [hz2]; omega) (by omega)
  rw [h]
  simp only [Int.toNat_natCast, hz1]
  refine ⟨(madeCells _ (n * 3)).toList, ?_, rfl⟩
  rw [Array.length_toList, size_madeCells]
set_option maxRecDepth 100000 in
set_option maxHeartbeats 1000000 in
theorem toVecS_k (a : Option Addr) (cap : Nat) (l : List VecD) (n : Nat) (w : World) (hr : Sl w a 3 n (VecD.at l)) (hn : n ≤ 1048576) :
    Calls Tryz.prog 21 #[.slice a n cap] w (GivesC w 3 n (VecD.at l)) := by
  obtain ⟨arr0, ha0, hmk⟩ := make_Vec n hn w
  have HR := Lib.hid hr
  have HA := Lib.hid ha0
  clear hr ha0
  go_enter Tryz.func21, Tryz.ntmps21
  go_wp2
  go_loopw [4] (fun i wr => ∃ (k : Nat) (arr : List Value) (X : Array Obj) (d : Nat), k ≤ n ∧ i = .int .i64 k ∧ Filled arr 3 n k (VecD.at l) ∧ wr = more (w.alloc (.cells ⟨arr⟩ 28)) X d) (fun i _ => n - (intOf i).toNat)
  case atStart => exact ⟨0, arr0, #[], _, by omega, rfl, .start HA.out, more_self' _⟩
  case round =>
    obtain ⟨k, arr, X, d, hk, rfl, hf, rfl⟩ := hrel
    have HF := Lib.hid hf
    clear hf
    by_cases hlt : k < n
    · have hk1 : (k : Int) < (n : Int) := by omega
      obtain ⟨b, o, rfl, hb, hc⟩ := HR.out (by omega)
      have HC := Lib.hid hc
      clear hc
      have hrow := row_lt (s := 3) (Nat.lt_succ_self k) (show k + 1 ≤ n from hlt)
      have g0 : k * 3 < arr.length := by rw [HF.out.1]; omega
      have g1 : k * 3 + 1 < arr.length := by rw [HF.out.1]; omega
      have g2 : k * 3 + 2 < arr.length := by rw [HF.out.1]; omega
      have hat : VecD.at l k = (l.getD k default).cells := rfl
      have c0 : w.cell? ⟨b, o + k * 3, none⟩ = some (.int .i64 (l.getD k default).f0) := HC.out k hlt 0 (by omega)
      have c1 : w.cell? ⟨b, o + k * 3 + 1, none⟩ = some (.int .i64 (l.getD k default).f1) := HC.out k hlt 1 (by omega)
      have c2 : w.cell? ⟨b, o + k * 3 + 2, none⟩ = some (.int .i64 (l.getD k default).f2) := HC.out k hlt 2 (by omega)
      generalize l.getD k default = x at *
      have HT := Lib.hid hat
      clear hat hrow
      go_wp2_with (go_at_call 36; refine (toVec_c x _).mono ?_; rintro e wn ⟨rfl, hbn⟩; obtain ⟨X, nX, rfl⟩ := Below.ext hbn; clear hbn)
      go_roundw
      case rel => exact ⟨k + 1, setRow arr (k * 3) x.cells, _, _, by omega, by go_num, HF.out.next hlt rfl (fun j _ => by rw [HT.out]), rfl⟩
      case measure => simp [intOf]; omega
    · have hk' : k = n := by omega
      have HK := Lib.hid hk'
      clear hk'
      go_wp2
      go_ret
      have hff := HF.out
      rw [HK.out] at hff
      exact ⟨_, _, rfl, ow_new (e := 28) (by rw [heap_more _ (by simp), heap_alloc_new]) (Nat.le_refl _) (by simp; omega) (by rw [hff.1]; exact Nat.le_refl _) hff.2, (by repeat (first | exact Below.refl _ _ | refine Below.drew ?_ | refine Below.alloc ?_ (by first | exact Nat.le_refl _ | (simp; done) | (simp; omega) | omega) _ | refine Below.more ?_ (by first | exact Nat.le_refl _ | (simp; done) | (simp; omega) | omega) _ _ | refine Below.setCell ?_ (by first | exact Nat.le_refl _ | (simp; done) | (simp; omega) | omega) _ | assumption)), Nat.le_refl _⟩
theorem toVecS_c (a : Option Addr) (cap : Nat) (l : List VecD) (n : Nat) (w : World) (hr : Sl w a 3 n (VecD.at l)) (hn : n ≤ 1048576) :
    Calls Tryz.prog 21 #[.slice a n cap] w (Gives w 3 n (VecD.at l)) := (toVecS_k a cap l n w hr hn).mono fun _ _ h => h.gives
set_option maxRecDepth 100000 in
theorem eqVec_c (x : VecD) (w : World) : Calls Tryz.prog 8 #[.agg ⟨x.cells⟩, .agg ⟨x.cells⟩] w fun e w' => e = .returned (.bool true) ∧ Below w.heap.size w w' := by
  obtain ⟨f0, f1, f2⟩ := x
  go_enter Tryz.func8, Tryz.ntmps8
  go_wp2
  all_goals (go_ret; exact ⟨rfl, (by repeat (first | exact Below.refl _ _ | refine Below.drew ?_ | refine Below.alloc ?_ (by first | exact Nat.le_refl _ | (simp; done) | (simp; omega) | omega) _ | refine Below.more ?_ (by first | exact Nat.le_refl _ | (simp; done) | (simp; omega) | omega) _ _ | refine Below.setCell ?_ (by first | exact Nat.le_refl _ | (simp; done) | (simp; omega) | omega) _ | assumption))⟩)
set_option maxRecDepth 100000 in
set_option maxHeartbeats 1000000 in
theorem eqVecS_c (a a' : Option Addr) (cap cap' : Nat) (l : List VecD) (n : Nat) (w : World) (hr : Sl w a 3 n (VecD.at l)) (hr' : Sl w a' 3 n (VecD.at l)) (hn : n ≤ 9223372036854775807) :
    Calls Tryz.prog 26 #[.slice a n cap, .slice a' n cap'] w fun e w' => e = .returned (.bool true) ∧ Below w.heap.size w w' := by
  have HR := Lib.hid hr
  have HR' := Lib.hid hr'
  clear hr hr'
  go_enter Tryz.func26, Tryz.ntmps26
  go_wp2
  go_loopw [5] (fun i wr => ∃ (k d : Nat) (X : Array Obj), k ≤ n ∧ i = .int .i64 k ∧ wr = more w X d) (fun i _ => n - (intOf i).toNat)
  case atStart => exact ⟨0, _, #[], by omega, rfl, more_self' w⟩
  case round =>
    obtain ⟨k, d, X0, hk, rfl, rfl⟩ := hrel
    by_cases hlt : k < n
    · have hk1 : (k : Int) < (n : Int) := by omega
      have hk0 : (0 : Int) ≤ (k : Int) := by omega
      obtain ⟨b, o, rfl, hb, hc⟩ := HR.out (by omega)
      have HC := Lib.hid hc
      clear hc
      obtain ⟨b', o', rfl, hb', hc'⟩ := HR'.out (by omega)
      have HC2 := Lib.hid hc'
      clear hc'
      have c0 : w.cell? ⟨b, o + k * 3, none⟩ = some (.int .i64 (l.getD k default).f0) := HC.out k hlt 0 (by omega)
      have c1 : w.cell? ⟨b, o + k * 3 + 1, none⟩ = some (.int .i64 (l.getD k default).f1) := HC.out k hlt 1 (by omega)
      have c2 : w.cell? ⟨b, o + k * 3 + 2, none⟩ = some (.int .i64 (l.getD k default).f2) := HC.out k hlt 2 (by omega)
      have e0 : w.cell? ⟨b', o' + k * 3, none⟩ = some (.int .i64 (l.getD k default).f0) := HC2.out k hlt 0 (by omega)
      have e1 : w.cell? ⟨b', o' + k * 3 + 1, none⟩ = some (.int .i64 (l.getD k default).f1) := HC2.out k hlt 1 (by omega)
      have e2 : w.cell? ⟨b', o' + k * 3 + 2, none⟩ = some (.int .i64 (l.getD k default).f2) := HC2.out k hlt 2 (by omega)
      generalize l.getD k default = x at *
      go_wp2
      (first | refine region_q2 (by kernel_rfl) (by kernel_rfl) ?_ | refine region_q (by kernel_rfl) (by kernel_rfl) ?_)
      repeat (quiet_step (fail))
      (refine wpQuiet_step (fun K hK => ?_); go_simp; refine ⟨_, fun zt => ext_below (eqVec_c x _), hK _ ?_⟩; clear hK K)
      repeat (quiet_step (fail))
      (refine wpQuiet_nil ?_; intro X nX)
      go_wp2
      go_roundw
      case rel => exact ⟨k + 1, _, _, by omega, by go_num, rfl⟩
      case measure => simp [intOf]; omega
    · go_wp2
      go_ret
      exact ⟨rfl, (by repeat (first | exact Below.refl _ _ | refine Below.drew ?_ | refine Below.alloc ?_ (by first | exact Nat.le_refl _ | (simp; done) | (simp; omega) | omega) _ | refine Below.more ?_ (by first | exact Nat.le_refl _ | (simp; done) | (simp; omega) | omega) _ _ | refine Below.setCell ?_ (by first | exact Nat.le_refl _ | (simp; done) | (simp; omega) | omega) _ | assumption))⟩
/-- What is left behind a slice's length. -/
def Vec.szI (left : Int) (n : Nat) : Int := if left - n < 0 then -1 else left - n
theorem szVecS_c (a : Option Addr) (cap n : Nat) (left : Int) (w : World) (h0 : 0 ≤ left) (h1 : left ≤ 1048576) (hn : n ≤ 9223372036854775807) :
    Calls Tryz.prog 10 #[.slice a n cap, .int .i64 left] w fun e w' => e = .returned (.int .i64 (Vec.szI left n)) ∧ w = w' := by
  by_cases hlt : left - n < 0
  · have hs : Vec.szI left n = -1 := by unfold Vec.szI; rw [if_pos hlt]
    have HS := Lib.hid hs
    clear hs
    go_enter Tryz.func10, Tryz.ntmps10
    go_wp2
    go_ret
    exact ⟨ret_int HS.out.symm, rfl⟩
  · have hs : Vec.szI left n = left - n := by unfold Vec.szI; rw [if_neg hlt]
    have HS := Lib.hid hs
    clear hs
    go_enter Tryz.func10, Tryz.ntmps10
    go_wp2
    go_ret
    exact ⟨ret_int HS.out.symm, rfl⟩
set_option maxRecDepth 100000 in
theorem open_VecS {H : Type} {enc : TypeId × Value → H} {W : World} {v : Value} {d : DataW H} {p : List MemPlace} {base : Nat} (k : Value.okWide Tryz.prog W .any base 22 v) (h : DataW.Trod enc Tryz.prog W 0 (fun _ => true) true 22 v d p) :
    ∃ (a : Option Addr) (cap : Nat) (l : List VecD) (n : Nat), v = .slice a n cap ∧ Hid (l.length = n) ∧ Hid (Sl W a 3 n (VecD.at l)) ∧ n ≤ 9223372036854775807 := by
  obtain ⟨a0, n0, cap0, rfl⟩ := WideShapes.okWide_slice Tryz.underlying22 k
  obtain ⟨fuel, hf⟩ := h
  obtain ⟨a, n, cap, e, hn, hx⟩ := trod_recs (e := 57) (s := 3) (d := 8) (ts := [3, 3, 3]) Tryz.underlying22 (by kernel_rfl) (by decide) (by decide +kernel) rfl (v := .slice a0 n0 cap0) (by simpa [Value.cells] using hf)
  obtain ⟨rfl, rfl, rfl⟩ : a = a0 ∧ n = n0 ∧ cap = cap0 := by simp at e; exact ⟨e.1.symm, e.2.1.symm, e.2.2.symm⟩
  unfold maxLen at hn
  by_cases h0 : n = 0
  · subst h0
    exact ⟨_, _, [], 0, rfl, Lib.hid rfl, Lib.hid Sl.none, by omega⟩
  · obtain ⟨b, o, rfl, hb, hc⟩ := hx (by omega)
    have get : ∀ i, i < n → ((List.range n).map fun i => (⟨intC (W.cell? ⟨b, o + i * 3 + 0, none⟩), intC (W.cell? ⟨b, o + i * 3 + 1, none⟩), intC (W.cell? ⟨b, o + i * 3 + 2, none⟩)⟩ : VecD)).getD i default = (⟨intC (W.cell? ⟨b, o + i * 3 + 0, none⟩), intC (W.cell? ⟨b, o + i * 3 + 1, none⟩), intC (W.cell? ⟨b, o + i * 3 + 2, none⟩)⟩ : VecD) := by
      intro i hi
      rw [List.getD_eq_getElem?_getD, List.getElem?_map, List.getElem?_range hi]; rfl
    refine ⟨_, _, (List.range n).map fun i => (⟨intC (W.cell? ⟨b, o + i * 3 + 0, none⟩), intC (W.cell? ⟨b, o + i * 3 + 1, none⟩), intC (W.cell? ⟨b, o + i * 3 + 2, none⟩)⟩ : VecD), n, rfl, Lib.hid (by simp), Lib.hid (fun _ => ⟨b, o, rfl, hb, fun i hi j hj => ?_⟩), hn⟩
    · unfold VecD.at
      rw [get i hi]
      obtain ⟨u, m, y, hu, ht⟩ := hc i hi j hj
      rw [hu]
      obtain rfl | rfl | rfl : j = 0 ∨ j = 1 ∨ j = 2 := by omega
      · obtain ⟨z, e1, _, _⟩ := DataW.trod_int Tryz.underlying3 ht; obtain rfl : u = .int .i64 z := by simpa using e1
        simp only [hu, intC]; rfl
      · obtain ⟨z, e1, _, _⟩ := DataW.trod_int Tryz.underlying3 ht; obtain rfl : u = .int .i64 z := by simpa using e1
        simp only [hu, intC]; rfl
      · obtain ⟨z, e1, _, _⟩ := DataW.trod_int Tryz.underlying3 ht; obtain rfl : u = .int .i64 z := by simpa using e1
        simp only [hu, intC]; rfl

end Go.Proofs.YtbmhehjllchpoaaGreat
