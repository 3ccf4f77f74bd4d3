/- Contracts of what the laws do with slices of Int. -/
import Derived.Test.YtdkjiafdfenbkaaDoorTrod
import Derived.Test.YtdkjiafdfenbkaaDoorRecs
namespace Go.Proofs.YtdkjiafdfenbkaaDoor
open Go.RowKit
set_option linter.unusedVariables false
def intAt (l : List Int) (i : Nat) : List Value := [.int .i64 (l.getD i 0)]
theorem intAt_len (l : List Int) (i : Nat) : (intAt l i).length = 1 := rfl
theorem info_Int : (Tryd.prog.info? 3).map (fun i => (i.zero, i.size, i.bytes)) = some (some (.int .i64 0), 1, 8) := by kernel_rfl
set_option maxRecDepth 100000 in
theorem make_Int (n : Nat) (hn : n ≤ 1048576) (w : World) : ∃ arr : List Value, arr.length = n * 1 ∧ (Instr.makeSlice 68 (.int .i64 (n : Int)) (.int .i64 (n : Int))).run Tryd.prog w = .ok (.slice (some ⟨w.heap.size, 0, none⟩) n n) (w.alloc (.cells ⟨arr⟩ 3)) := by
  obtain ⟨i0, hi, hz0, hz1, hz2⟩ := info_parts info_Int
  have h := run_make w 68 3 i0 _ Tryd.underlying68 hi hz0 .i64 .i64 (n : Int) (n : Int) (by omega) (by omega) (by rw [hz2]; omega) (by omega)
  rw [h]
  simp only [Int.toNat_natCast, hz1]
  refine ⟨(madeCells _ (n * 1)).toList, ?_, rfl⟩
  rw [Array.length_toList, size_madeCells]
set_option maxRecDepth 100000 in
set_option maxHeartbeats 1000000 in
theorem toIntS_k (a : Option Addr) (cap : Nat) (l : List Int) (n : Nat) (w : World) (hr : Sl w a 1 n (intAt l)) (hn : n ≤ 1048576) :
    Calls Tryd.prog 132 #[.slice a n cap] w (GivesC w 1 n (intAt l)) := by
  obtain ⟨arr0, ha0, hmk⟩ := make_Int n hn w
  have HR := Lib.hid hr
  have HA := Lib.hid ha0
  clear hr ha0
  go_enter Tryd.func132, Tryd.ntmps132
  go_wp2
  go_loopw [4] (fun i wr => ∃ (k : Nat) (arr : List Value) (X : Array Obj) (d : Nat), k ≤ n ∧ i = .int .i64 k ∧ Filled arr 1 n k (intAt l) ∧ wr = more (w.alloc (.cells ⟨arr⟩ 3)) X d) (fun i _ => n - (intOf i).toNat)
  case atStart => exact ⟨0, arr0, #[], _, by omega, rfl, .start HA.out, more_self' _⟩
  case round =>
    obtain ⟨k, arr, X, d, hk, rfl, hf, rfl⟩ := hrel
    have HF := Lib.hid hf
    clear hf
    by_cases hlt : k < n
    · have hk1 : (k : Int) < (n : Int) := by omega
      obtain ⟨b, o, rfl, hb, hc⟩ := HR.out (by omega)
      have HC := Lib.hid hc
      clear hc
      have hrow := row_lt (s := 1) (Nat.lt_succ_self k) (show k + 1 ≤ n from hlt)
      have g0 : k < arr.length := by rw [HF.out.1]; omega
      have hat : intAt l k = [.int .i64 (l.getD k 0)] := rfl
      have c0 : w.cell? ⟨b, o + k, none⟩ = some (.int .i64 (l.getD k 0)) := by have := HC.out k hlt 0 (by omega); rw [Nat.mul_one, Nat.add_zero] at this; exact this
      generalize l.getD k 0 = x at *
      have HT := Lib.hid hat
      clear hat hrow
      go_wp2
      go_roundw
      case rel => exact ⟨k + 1, setRow arr (k * 1) [.int .i64 x], X, d, by omega, by go_num, HF.out.next hlt rfl (fun j _ => by rw [HT.out]), by simp [setRow]⟩
      case measure => simp [intOf]; omega
    · have hk' : k = n := by omega
      have HK := Lib.hid hk'
      clear hk'
      go_wp2
      go_ret
      have hff := HF.out
      rw [HK.out] at hff
      exact ⟨_, _, rfl, ow_new (e := 3) (by rw [heap_more _ (by simp), heap_alloc_new]) (Nat.le_refl _) (by simp; omega) (by rw [hff.1]; exact Nat.le_refl _) hff.2, (by repeat (first | exact Below.refl _ _ | refine Below.drew ?_ | refine Below.alloc ?_ (by first | exact Nat.le_refl _ | (simp; done) | (simp; omega) | omega) _ | refine Below.more ?_ (by first | exact Nat.le_refl _ | (simp; done) | (simp; omega) | omega) _ _ | refine Below.setCell ?_ (by first | exact Nat.le_refl _ | (simp; done) | (simp; omega) | omega) _ | assumption)), Nat.le_refl _⟩
theorem toIntS_c (a : Option Addr) (cap : Nat) (l : List Int) (n : Nat) (w : World) (hr : Sl w a 1 n (intAt l)) (hn : n ≤ 1048576) :
    Calls Tryd.prog 132 #[.slice a n cap] w (Gives w 1 n (intAt l)) := (toIntS_k a cap l n w hr hn).mono fun _ _ h => h.gives
set_option maxRecDepth 100000 in
set_option maxHeartbeats 1000000 in
theorem eqIntS_c (a a' : Option Addr) (cap cap' : Nat) (l : List Int) (n : Nat) (w : World) (hr : Sl w a 1 n (intAt l)) (hr' : Sl w a' 1 n (intAt l)) (hn : n ≤ 9223372036854775807) :
    Calls Tryd.prog 135 #[.slice a n cap, .slice a' n cap'] w fun e w' => e = .returned (.bool true) ∧ Below w.heap.size w w' := by
  have HR := Lib.hid hr
  have HR' := Lib.hid hr'
  clear hr hr'
  go_enter Tryd.func135, Tryd.ntmps135
  go_wp2
  go_loopw [5] (fun i wr => ∃ (k d : Nat) (X : Array Obj), k ≤ n ∧ i = .int .i64 k ∧ wr = more w X d) (fun i _ => n - (intOf i).toNat)
  case atStart => exact ⟨0, _, #[], by omega, rfl, more_self' w⟩
  case round =>
    obtain ⟨k, d, X0, hk, rfl, rfl⟩ := hrel
    by_cases hlt : k < n
    · have hk1 : (k : Int) < (n : Int) := by omega
      have hk0 : (0 : Int) ≤ (k : Int) := by omega
      obtain ⟨b, o, rfl, hb, hc⟩ := HR.out (by omega)
      have HC := Lib.hid hc
      clear hc
      obtain ⟨b', o', rfl, hb', hc'⟩ := HR'.out (by omega)
      have HC2 := Lib.hid hc'
      clear hc'
      have c0 : w.cell? ⟨b, o + k, none⟩ = some (.int .i64 (l.getD k 0)) := by have := HC.out k hlt 0 (by omega); rw [Nat.mul_one, Nat.add_zero] at this; exact this
      have e0 : w.cell? ⟨b', o' + k, none⟩ = some (.int .i64 (l.getD k 0)) := by have := HC2.out k hlt 0 (by omega); rw [Nat.mul_one, Nat.add_zero] at this; exact this
      generalize l.getD k 0 = x at *
      go_wp2
      (first | refine region_q2 (by kernel_rfl) (by kernel_rfl) ?_ | refine region_q (by kernel_rfl) (by kernel_rfl) ?_)
      repeat (quiet_step (fail))
      (refine wpQuiet_nil ?_; intro X nX)
      go_wp2
      go_roundw
      case rel => exact ⟨k + 1, _, _, by omega, by go_num, rfl⟩
      case measure => simp [intOf]; omega
    · go_wp2
      go_ret
      exact ⟨rfl, (by repeat (first | exact Below.refl _ _ | refine Below.drew ?_ | refine Below.alloc ?_ (by first | exact Nat.le_refl _ | (simp; done) | (simp; omega) | omega) _ | refine Below.more ?_ (by first | exact Nat.le_refl _ | (simp; done) | (simp; omega) | omega) _ _ | refine Below.setCell ?_ (by first | exact Nat.le_refl _ | (simp; done) | (simp; omega) | omega) _ | assumption))⟩
/-- What is left behind a slice's length. -/
def Int.szI (left : Int) (n : Nat) : Int := if left - n < 0 then -1 else left - n
theorem szIntS_c (a : Option Addr) (cap n : Nat) (left : Int) (w : World) (h0 : 0 ≤ left) (h1 : left ≤ 1048576) (hn : n ≤ 9223372036854775807) :
    Calls Tryd.prog 131 #[.slice a n cap, .int .i64 left] w fun e w' => e = .returned (.int .i64 (Int.szI left n)) ∧ w = w' := by
  by_cases hlt : left - n < 0
  · have hs : Int.szI left n = -1 := by unfold Int.szI; rw [if_pos hlt]
    have HS := Lib.hid hs
    clear hs
    go_enter Tryd.func131, Tryd.ntmps131
    go_wp2
    go_ret
    exact ⟨ret_int HS.out.symm, rfl⟩
  · have hs : Int.szI left n = left - n := by unfold Int.szI; rw [if_neg hlt]
    have HS := Lib.hid hs
    clear hs
    go_enter Tryd.func131, Tryd.ntmps131
    go_wp2
    go_ret
    exact ⟨ret_int HS.out.symm, rfl⟩
set_option maxRecDepth 100000 in
theorem open_IntS {H : Type} {enc : TypeId × Value → H} {W : World} {v : Value} {d : DataW H} {p : List MemPlace} {base : Nat} (k : Value.okWide Tryd.prog W .any base 68 v) (h : DataW.Trod enc Tryd.prog W 0 (fun _ => true) true 68 v d p) :
    ∃ (a : Option Addr) (cap : Nat) (l : List Int) (n : Nat), v = .slice a n cap ∧ Hid (l.length = n) ∧ Hid (Sl W a 1 n (intAt l)) ∧ n ≤ 9223372036854775807 := by
  obtain ⟨a0, n0, cap0, rfl⟩ := WideShapes.okWide_slice Tryd.underlying68 k
  obtain ⟨fuel, hf⟩ := h
  obtain ⟨a, n, cap, e, hn, hx⟩ := trod_recs (e := 3) (s := 1) (d := 8) (ts := [3]) Tryd.underlying68 (by kernel_rfl) (by decide) (by decide +kernel) rfl (v := .slice a0 n0 cap0) (by simpa [Value.cells] using hf)
  obtain ⟨rfl, rfl, rfl⟩ : a = a0 ∧ n = n0 ∧ cap = cap0 := by simp at e; exact ⟨e.1.symm, e.2.1.symm, e.2.2.symm⟩
  unfold maxLen at hn
  by_cases h0 : n = 0
  · subst h0
    exact ⟨_, _, [], 0, rfl, Lib.hid rfl, Lib.hid Sl.none, by omega⟩
  · obtain ⟨b, o, rfl, hb, hc⟩ := hx (by omega)
    have get : ∀ i, i < n → ((List.range n).map fun i => (intC (W.cell? ⟨b, o + i * 1 + 0, none⟩))).getD i 0 = (intC (W.cell? ⟨b, o + i * 1 + 0, none⟩)) := by
      intro i hi
      rw [List.getD_eq_getElem?_getD, List.getElem?_map, List.getElem?_range hi]; rfl
    refine ⟨_, _, (List.range n).map fun i => (intC (W.cell? ⟨b, o + i * 1 + 0, none⟩)), n, rfl, Lib.hid (by simp), Lib.hid (fun _ => ⟨b, o, rfl, hb, fun i hi j hj => ?_⟩), hn⟩
    · unfold intAt
      rw [get i hi]
      obtain ⟨u, m, y, hu, ht⟩ := hc i hi j hj
      rw [hu]
      obtain rfl : j = 0 := by omega
      · obtain ⟨z, e1, _, _⟩ := DataW.trod_int Tryd.underlying3 ht; obtain rfl : u = .int .i64 z := by simpa using e1
        simp only [hu, intC]; rfl

end Go.Proofs.YtdkjiafdfenbkaaDoor
