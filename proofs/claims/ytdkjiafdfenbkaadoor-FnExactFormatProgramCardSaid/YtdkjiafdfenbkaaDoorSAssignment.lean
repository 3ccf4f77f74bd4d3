/- Contracts of what the laws do with slices of Assignment. -/
import Derived.Test.YtdkjiafdfenbkaaDoorTrod
import Derived.Test.YtdkjiafdfenbkaaDoorRecs
import Derived.Test.YtdkjiafdfenbkaaDoorMarkText
namespace Go.Proofs.YtdkjiafdfenbkaaDoor
open Go.RowKit
set_option linter.unusedVariables false
structure AssignmentD where
  f0 : ByteArray
  f1 : Int
instance : Inhabited AssignmentD := ⟨⟨ByteArray.empty, 0⟩⟩
@[reducible] def AssignmentD.cells (x : AssignmentD) : List Value := [.string x.f0, .int .i64 x.f1]
def AssignmentD.at (l : List AssignmentD) (i : Nat) : List Value := (l.getD i default).cells
theorem AssignmentD.at_len (l : List AssignmentD) (i : Nat) : (AssignmentD.at l i).length = 2 := rfl
theorem info_Assignment : (Tryd.prog.info? 104).map (fun i => (i.zero, i.size, i.bytes)) = some (some (.agg #[.string ByteArray.empty, .int .i64 0]), 2, 24) := by kernel_rfl
set_option maxRecDepth 100000 in
theorem toAssignment_c (x : AssignmentD) (w : World) : Calls Tryd.prog 106 #[.agg ⟨x.cells⟩] w fun e w' => e = .returned (.agg ⟨x.cells⟩) ∧ Below w.heap.size w w' := by
  obtain ⟨f0, f1⟩ := x
  go_enter Tryd.func106, Tryd.ntmps106
  go_wp2
  go_returns
  exact ⟨rfl, (by repeat (first | exact Below.refl _ _ | refine Below.drew ?_ | refine Below.alloc ?_ (by first | exact Nat.le_refl _ | (simp; done) | (simp; omega) | omega) _ | refine Below.more ?_ (by first | exact Nat.le_refl _ | (simp; done) | (simp; omega) | omega) _ _ | refine Below.setCell ?_ (by first | exact Nat.le_refl _ | (simp; done) | (simp; omega) | omega) _ | assumption))⟩
set_option maxRecDepth 100000 in
theorem make_Assignment (n : Nat) (hn : n ≤ 1048576) (w : World) : ∃ arr : List Value, arr.length = n * 2 ∧ (Instr.makeSlice 61 (.int .i64 (n : Int)) (.int .i64 (n : Int))).run Tryd.prog w = .ok (.slice (some ⟨w.heap.size, 0, none⟩) n n) (w.alloc (.cells ⟨arr⟩ 104)) := by
  obtain ⟨i0, hi, hz0, hz1, hz2⟩ := info_parts info_Assignment
  have h := run_make w 61 104 i0 _ Tryd.underlying61 hi hz0 .i64 .i64 (n : Int) (n : Int) (by omega) (by omega) (by rw [hz2]; omega) (by omega)
  rw [h]
  simp only [Int.toNat_natCast, hz1]
  refine ⟨(madeCells _ (n * 2)).toList, ?_, rfl⟩
  rw [Array.length_toList, size_madeCells]
set_option maxRecDepth 100000 in
set_option maxHeartbeats 1000000 in
theorem toAssignmentS_k (a : Option Addr) (cap : Nat) (l : List AssignmentD) (n : Nat) (w : World) (hr : Sl w a 2 n (AssignmentD.at l)) (hn : n ≤ 1048576) :
    Calls Tryd.prog 68 #[.slice a n cap] w (GivesC w 2 n (AssignmentD.at l)) := by
  obtain ⟨arr0, ha0, hmk⟩ := make_Assignment n hn w
  have HR := Lib.hid hr
  have HA := Lib.hid ha0
  clear hr ha0
  go_enter Tryd.func68, Tryd.ntmps68
  go_wp2
  go_loopw [4] (fun i wr => ∃ (k : Nat) (arr : List Value) (X : Array Obj) (d : Nat), k ≤ n ∧ i = .int .i64 k ∧ Filled arr 2 n k (AssignmentD.at l) ∧ wr = more (w.alloc (.cells ⟨arr⟩ 104)) X d) (fun i _ => n - (intOf i).toNat)
  case atStart => exact ⟨0, arr0, #[], _, by omega, rfl, .start HA.out, more_self' _⟩
  case round =>
    obtain ⟨k, arr, X, d, hk, rfl, hf, rfl⟩ := hrel
    have HF := Lib.hid hf
    clear hf
    by_cases hlt : k < n
    · have hk1 : (k : Int) < (n : Int) := by omega
      obtain ⟨b, o, rfl, hb, hc⟩ := HR.out (by omega)
      have HC := Lib.hid hc
      clear hc
      have hrow := row_lt (s := 2) (Nat.lt_succ_self k) (show k + 1 ≤ n from hlt)
      have g0 : k * 2 < arr.length := by rw [HF.out.1]; omega
      have g1 : k * 2 + 1 < arr.length := by rw [HF.out.1]; omega
      have hat : AssignmentD.at l k = (l.getD k default).cells := rfl
      have c0 : w.cell? ⟨b, o + k * 2, none⟩ = some (.string (l.getD k default).f0) := HC.out k hlt 0 (by omega)
      have c1 : w.cell? ⟨b, o + k * 2 + 1, none⟩ = some (.int .i64 (l.getD k default).f1) := HC.out k hlt 1 (by omega)
      generalize l.getD k default = x at *
      have HT := Lib.hid hat
      clear hat hrow
      go_wp2_with (go_at_call 106; refine (toAssignment_c x _).mono ?_; rintro e wn ⟨rfl, hbn⟩; obtain ⟨X, nX, rfl⟩ := Below.ext hbn; clear hbn)
      go_roundw
      case rel => exact ⟨k + 1, setRow arr (k * 2) x.cells, _, _, by omega, by go_num, HF.out.next hlt rfl (fun j _ => by rw [HT.out]), rfl⟩
      case measure => simp [intOf]; omega
    · have hk' : k = n := by omega
      have HK := Lib.hid hk'
      clear hk'
      go_wp2
      go_ret
      have hff := HF.out
      rw [HK.out] at hff
      exact ⟨_, _, rfl, ow_new (e := 104) (by rw [heap_more _ (by simp), heap_alloc_new]) (Nat.le_refl _) (by simp; omega) (by rw [hff.1]; exact Nat.le_refl _) hff.2, (by repeat (first | exact Below.refl _ _ | refine Below.drew ?_ | refine Below.alloc ?_ (by first | exact Nat.le_refl _ | (simp; done) | (simp; omega) | omega) _ | refine Below.more ?_ (by first | exact Nat.le_refl _ | (simp; done) | (simp; omega) | omega) _ _ | refine Below.setCell ?_ (by first | exact Nat.le_refl _ | (simp; done) | (simp; omega) | omega) _ | assumption)), Nat.le_refl _⟩
theorem toAssignmentS_c (a : Option Addr) (cap : Nat) (l : List AssignmentD) (n : Nat) (w : World) (hr : Sl w a 2 n (AssignmentD.at l)) (hn : n ≤ 1048576) :
    Calls Tryd.prog 68 #[.slice a n cap] w (Gives w 2 n (AssignmentD.at l)) := (toAssignmentS_k a cap l n w hr hn).mono fun _ _ h => h.gives
set_option maxRecDepth 100000 in
theorem eqAssignment_c (x : AssignmentD) (w : World) : Calls Tryd.prog 115 #[.agg ⟨x.cells⟩, .agg ⟨x.cells⟩] w fun e w' => e = .returned (.bool true) ∧ Below w.heap.size w w' := by
  obtain ⟨f0, f1⟩ := x
  go_enter Tryd.func115, Tryd.ntmps115
  go_wp2
  all_goals (go_ret; exact ⟨rfl, (by repeat (first | exact Below.refl _ _ | refine Below.drew ?_ | refine Below.alloc ?_ (by first | exact Nat.le_refl _ | (simp; done) | (simp; omega) | omega) _ | refine Below.more ?_ (by first | exact Nat.le_refl _ | (simp; done) | (simp; omega) | omega) _ _ | refine Below.setCell ?_ (by first | exact Nat.le_refl _ | (simp; done) | (simp; omega) | omega) _ | assumption))⟩)
set_option maxRecDepth 100000 in
set_option maxHeartbeats 1000000 in
theorem eqAssignmentS_c (a a' : Option Addr) (cap cap' : Nat) (l : List AssignmentD) (n : Nat) (w : World) (hr : Sl w a 2 n (AssignmentD.at l)) (hr' : Sl w a' 2 n (AssignmentD.at l)) (hn : n ≤ 9223372036854775807) :
    Calls Tryd.prog 74 #[.slice a n cap, .slice a' n cap'] w fun e w' => e = .returned (.bool true) ∧ Below w.heap.size w w' := by
  have HR := Lib.hid hr
  have HR' := Lib.hid hr'
  clear hr hr'
  go_enter Tryd.func74, Tryd.ntmps74
  go_wp2
  go_loopw [5] (fun i wr => ∃ (k d : Nat) (X : Array Obj), k ≤ n ∧ i = .int .i64 k ∧ wr = more w X d) (fun i _ => n - (intOf i).toNat)
  case atStart => exact ⟨0, _, #[], by omega, rfl, more_self' w⟩
  case round =>
    obtain ⟨k, d, X0, hk, rfl, rfl⟩ := hrel
    by_cases hlt : k < n
    · have hk1 : (k : Int) < (n : Int) := by omega
      have hk0 : (0 : Int) ≤ (k : Int) := by omega
      obtain ⟨b, o, rfl, hb, hc⟩ := HR.out (by omega)
      have HC := Lib.hid hc
      clear hc
      obtain ⟨b', o', rfl, hb', hc'⟩ := HR'.out (by omega)
      have HC2 := Lib.hid hc'
      clear hc'
      have c0 : w.cell? ⟨b, o + k * 2, none⟩ = some (.string (l.getD k default).f0) := HC.out k hlt 0 (by omega)
      have c1 : w.cell? ⟨b, o + k * 2 + 1, none⟩ = some (.int .i64 (l.getD k default).f1) := HC.out k hlt 1 (by omega)
      have e0 : w.cell? ⟨b', o' + k * 2, none⟩ = some (.string (l.getD k default).f0) := HC2.out k hlt 0 (by omega)
      have e1 : w.cell? ⟨b', o' + k * 2 + 1, none⟩ = some (.int .i64 (l.getD k default).f1) := HC2.out k hlt 1 (by omega)
      generalize l.getD k default = x at *
      go_wp2
      (first | refine region_q2 (by kernel_rfl) (by kernel_rfl) ?_ | refine region_q (by kernel_rfl) (by kernel_rfl) ?_)
      repeat (quiet_step (fail))
      (refine wpQuiet_step (fun K hK => ?_); go_simp; refine ⟨_, fun zt => ext_below (eqAssignment_c x _), hK _ ?_⟩; clear hK K)
      repeat (quiet_step (fail))
      (refine wpQuiet_nil ?_; intro X nX)
      go_wp2
      go_roundw
      case rel => exact ⟨k + 1, _, _, by omega, by go_num, rfl⟩
      case measure => simp [intOf]; omega
    · go_wp2
      go_ret
      exact ⟨rfl, (by repeat (first | exact Below.refl _ _ | refine Below.drew ?_ | refine Below.alloc ?_ (by first | exact Nat.le_refl _ | (simp; done) | (simp; omega) | omega) _ | refine Below.more ?_ (by first | exact Nat.le_refl _ | (simp; done) | (simp; omega) | omega) _ _ | refine Below.setCell ?_ (by first | exact Nat.le_refl _ | (simp; done) | (simp; omega) | omega) _ | assumption))⟩
theorem szAssignment_c (x : AssignmentD) (left : Int) (w : World) (h0 : 0 ≤ left) (h1 : left ≤ 1048576) (hs : x.f0.size ≤ 9223372036854775807) :
    Calls Tryd.prog 101 #[.agg ⟨x.cells⟩, .int .i64 left] w fun e w' => e = .returned (.int .i64 (if left - x.f0.size < 0 then -1 else left - x.f0.size)) ∧ Below w.heap.size w w' := by
  by_cases hlt : left - x.f0.size < 0
  all_goals
    first | rw [if_pos hlt] | rw [if_neg hlt]
    obtain ⟨f0, f1⟩ := x
    dsimp only at hs hlt ⊢
    go_enter Tryd.func101, Tryd.ntmps101
    go_wp2
    all_goals (go_ret; exact ⟨rfl, (by repeat (first | exact Below.refl _ _ | refine Below.drew ?_ | refine Below.alloc ?_ (by first | exact Nat.le_refl _ | (simp; done) | (simp; omega) | omega) _ | refine Below.more ?_ (by first | exact Nat.le_refl _ | (simp; done) | (simp; omega) | omega) _ _ | refine Below.setCell ?_ (by first | exact Nat.le_refl _ | (simp; done) | (simp; omega) | omega) _ | assumption))⟩)
/-- What is left behind a slice's lengths. -/
def AssignmentD.Left (l : List AssignmentD) (n : Nat) (left : Int) (w : World) (e : Ending) (w' : World) : Prop :=
  ∃ r : Int, e = .returned (.int .i64 r) ∧ Below w.heap.size w w' ∧ (r = -1 ∨ (0 ≤ r ∧ r ≤ left - n ∧ ∀ i, i < n → (l.getD i default).f0.size ≤ 1048576))
set_option maxRecDepth 100000 in
set_option maxHeartbeats 1000000 in
theorem szAssignmentS_c (a : Option Addr) (cap : Nat) (l : List AssignmentD) (n : Nat) (left : Int) (w : World) (hr : Sl w a 2 n (AssignmentD.at l)) (h0 : 0 ≤ left) (h1 : left ≤ 1048576) (hnm : n ≤ 9223372036854775807) (hsm : ∀ i, i < n → (l.getD i default).f0.size ≤ 9223372036854775807) :
    Calls Tryd.prog 64 #[.slice a n cap, .int .i64 left] w (AssignmentD.Left l n left w) := by
  have HR := Lib.hid hr
  have HS := Lib.hid hsm
  clear hr hsm
  by_cases hlt : left - n < 0
  · go_enter Tryd.func64, Tryd.ntmps64
    go_wp2
    go_ret
    exact ⟨-1, rfl, (by repeat (first | exact Below.refl _ _ | refine Below.drew ?_ | refine Below.alloc ?_ (by first | exact Nat.le_refl _ | (simp; done) | (simp; omega) | omega) _ | refine Below.more ?_ (by first | exact Nat.le_refl _ | (simp; done) | (simp; omega) | omega) _ _ | refine Below.setCell ?_ (by first | exact Nat.le_refl _ | (simp; done) | (simp; omega) | omega) _ | assumption)), .inl rfl⟩
  · have hln : (n : Int) ≤ left := by omega
    clear hlt
    go_enter Tryd.func64, Tryd.ntmps64
    go_wp2
    go_loopw [1, 5] (fun m i wr => ∃ (k d : Nat) (X : Array Obj) (r : Int), k ≤ n ∧ i = .int .i64 k ∧ m = .int .i64 r ∧ 0 ≤ r ∧ r ≤ left - n ∧ (∀ i, i < k → (l.getD i default).f0.size ≤ 1048576) ∧ wr = more w X d) (fun _ i _ => n - (intOf i).toNat)
    case atStart => exact ⟨0, _, #[], left - n, by omega, rfl, rfl, by omega, by omega, fun i hi => by omega, more_self' w⟩
    case round =>
      obtain ⟨k, d, X0, r, hk, rfl, rfl, hr0, hr1, hss, rfl⟩ := hrel
      have H4 := Lib.hid hss
      clear hss
      by_cases hlt : k < n
      · have hk1 : (k : Int) < (n : Int) := by omega
        have hk0 : (0 : Int) ≤ (k : Int) := by omega
        have hsx := HS.out k hlt
        have hgx : (∀ i, i < k + 1 → (l.getD i default).f0.size ≤ 1048576) ∨ ¬ (l.getD k default).f0.size ≤ 1048576 := by
          by_cases hq : (l.getD k default).f0.size ≤ 1048576
          · refine .inl fun i hi => ?_
            by_cases hik : i = k
            · subst hik; exact hq
            · exact H4.out i (by omega)
          · exact .inr hq
        have HGX := Lib.hid hgx
        clear hgx
        obtain ⟨b, o, rfl, hb, hc⟩ := HR.out (by omega)
        have HC := Lib.hid hc
        clear hc
        have c0 : w.cell? ⟨b, o + k * 2, none⟩ = some (.string (l.getD k default).f0) := HC.out k hlt 0 (by omega)
        have c1 : w.cell? ⟨b, o + k * 2 + 1, none⟩ = some (.int .i64 (l.getD k default).f1) := HC.out k hlt 1 (by omega)
        generalize hxx : l.getD k default = x at *
        have HXX := Lib.hid hxx
        clear hxx
        by_cases hneg : r - x.f0.size < 0
        · have hst := szAssignment_c x r
          rw [if_pos hneg] at hst
          have HST := Lib.hid hst
          clear hst
          go_wp2_with (go_at_call 101; refine (HST.out _ (by omega) (by omega) hsx).mono ?_; rintro e wn ⟨rfl, hbn⟩; obtain ⟨X, nX, rfl⟩ := Below.ext hbn; clear hbn)
          go_ret
          exact ⟨-1, rfl, (by repeat (first | exact Below.refl _ _ | refine Below.drew ?_ | refine Below.alloc ?_ (by first | exact Nat.le_refl _ | (simp; done) | (simp; omega) | omega) _ | refine Below.more ?_ (by first | exact Nat.le_refl _ | (simp; done) | (simp; omega) | omega) _ _ | refine Below.setCell ?_ (by first | exact Nat.le_refl _ | (simp; done) | (simp; omega) | omega) _ | assumption)), .inl rfl⟩
        · have hst := szAssignment_c x r
          rw [if_neg hneg] at hst
          have HST := Lib.hid hst
          clear hst
          go_wp2_with (go_at_call 101; refine (HST.out _ (by omega) (by omega) hsx).mono ?_; rintro e wn ⟨rfl, hbn⟩; obtain ⟨X, nX, rfl⟩ := Below.ext hbn; clear hbn)
          go_roundw
          case rel => exact ⟨k + 1, _, _, r - x.f0.size, by omega, by go_num, rfl, by omega, by omega, HGX.out.resolve_right (by omega), rfl⟩
          case measure => simp [intOf]; omega
      · have hk' : k = n := by omega
        have HK := Lib.hid hk'
        clear hk'
        go_wp2
        go_ret
        have hss := H4.out
        rw [HK.out] at hss
        exact ⟨r, rfl, (by repeat (first | exact Below.refl _ _ | refine Below.drew ?_ | refine Below.alloc ?_ (by first | exact Nat.le_refl _ | (simp; done) | (simp; omega) | omega) _ | refine Below.more ?_ (by first | exact Nat.le_refl _ | (simp; done) | (simp; omega) | omega) _ _ | refine Below.setCell ?_ (by first | exact Nat.le_refl _ | (simp; done) | (simp; omega) | omega) _ | assumption)), .inr ⟨hr0, hr1, hss⟩⟩
set_option maxRecDepth 100000 in
theorem open_AssignmentS {H : Type} {enc : TypeId × Value → H} {W : World} {v : Value} {d : DataW H} {p : List MemPlace} {base : Nat} (k : Value.okWide Tryd.prog W .any base 55 v) (h : DataW.Trod enc Tryd.prog W 0 (fun _ => true) true 55 v d p) :
    ∃ (a : Option Addr) (cap : Nat) (l : List AssignmentD) (n : Nat), v = .slice a n cap ∧ Hid (l.length = n) ∧ Hid (Sl W a 2 n (AssignmentD.at l)) ∧ n ≤ 9223372036854775807 ∧ ∀ i, i < n → (l.getD i default).f0.size ≤ 9223372036854775807 := by
  obtain ⟨a0, n0, cap0, rfl⟩ := WideShapes.okWide_slice Tryd.underlying55 k
  obtain ⟨fuel, hf⟩ := h
  obtain ⟨a, n, cap, e, hn, hx⟩ := trod_recs (e := 155) (s := 2) (d := 8) (ts := [9, 3]) Tryd.underlying55 (by kernel_rfl) (by decide) (by decide +kernel) rfl (v := .slice a0 n0 cap0) (by simpa [Value.cells] using hf)
  obtain ⟨rfl, rfl, rfl⟩ : a = a0 ∧ n = n0 ∧ cap = cap0 := by simp at e; exact ⟨e.1.symm, e.2.1.symm, e.2.2.symm⟩
  unfold maxLen at hn
  by_cases h0 : n = 0
  · subst h0
    exact ⟨_, _, [], 0, rfl, Lib.hid rfl, Lib.hid Sl.none, by omega, fun i hi => absurd hi (Nat.not_lt_zero i)⟩
  · obtain ⟨b, o, rfl, hb, hc⟩ := hx (by omega)
    have get : ∀ i, i < n → ((List.range n).map fun i => (⟨strC (W.cell? ⟨b, o + i * 2 + 0, none⟩), intC (W.cell? ⟨b, o + i * 2 + 1, none⟩)⟩ : AssignmentD)).getD i default = (⟨strC (W.cell? ⟨b, o + i * 2 + 0, none⟩), intC (W.cell? ⟨b, o + i * 2 + 1, none⟩)⟩ : AssignmentD) := by
      intro i hi
      rw [List.getD_eq_getElem?_getD, List.getElem?_map, List.getElem?_range hi]; rfl
    refine ⟨_, _, (List.range n).map fun i => (⟨strC (W.cell? ⟨b, o + i * 2 + 0, none⟩), intC (W.cell? ⟨b, o + i * 2 + 1, none⟩)⟩ : AssignmentD), n, rfl, Lib.hid (by simp), Lib.hid (fun _ => ⟨b, o, rfl, hb, fun i hi j hj => ?_⟩), hn, fun i hi => ?_⟩
    · unfold AssignmentD.at
      rw [get i hi]
      obtain ⟨u, m, y, hu, ht⟩ := hc i hi j hj
      rw [hu]
      obtain rfl | rfl : j = 0 ∨ j = 1 := by omega
      · obtain ⟨z, e1, _, _⟩ := DataW.trod_string Tryd.underlying9 ht; obtain rfl : u = .string z := by simpa using e1
        simp only [hu, strC]; rfl
      · obtain ⟨z, e1, _, _⟩ := DataW.trod_int Tryd.underlying3 ht; obtain rfl : u = .int .i64 z := by simpa using e1
        simp only [hu, intC]; rfl
    · rw [get i hi]
      obtain ⟨u, m, y, hu, ht⟩ := hc i hi 0 (by decide)
      obtain ⟨z, e1, _, hz⟩ := DataW.trod_string Tryd.underlying9 ht; obtain rfl : u = .string z := by simpa using e1
      unfold maxLen at hz; simp only [hu, strC]; exact hz
end Go.Proofs.YtdkjiafdfenbkaaDoor
