/- Contracts of what the laws do with slices of Assignment. -/
import Derived.Test.YtgennnoplmhckaaTrod
import Derived.Test.YtgennnoplmhckaaRecs
import Derived.Test.YtgennnoplmhckaaMarkText
namespace Go.Proofs.Ytgennnoplmhckaa
open Go.RowKit
structure AssignmentD where
  f0 : ByteArray
  f1 : Int
instance : Inhabited AssignmentD := ⟨⟨ByteArray.empty, 0⟩⟩
@[reducible] def AssignmentD.cells (x : AssignmentD) : List Value := [.string x.f0, .int .i64 x.f1]
def AssignmentD.at (l : List AssignmentD) (i : Nat) : List Value := (l.getD i default).cells
theorem AssignmentD.at_len (l : List AssignmentD) (i : Nat) : (AssignmentD.at l i).length = 2 := rfl
theorem info_Assignment : (Try.prog.info? 73).map (fun i => (i.zero, i.size, i.bytes)) = some (some (.agg #[.string ByteArray.empty, .int .i64 0]), 2, 24) := by kernel_rfl
set_option maxRecDepth 100000 in
theorem toAssignment_c (x : AssignmentD) (w : World) : Calls Try.prog 83 #[.agg ⟨x.cells⟩] w fun e w' => e = .returned (.agg ⟨x.cells⟩) ∧ Below w.heap.size w w' := by
  obtain ⟨f0, f1⟩ := x
  go_enter Try.func83, Try.ntmps83
  go_wp2
  go_returns
  exact ⟨rfl, (by repeat (first | exact Below.refl _ _ | refine Below.drew ?_ | refine Below.alloc ?_ (by first | exact Nat.le_refl _ | (simp; done) | (simp; omega) | omega) _ | refine Below.more ?_ (by first | exact Nat.le_refl _ | (simp; done) | (simp; omega) | omega) _ _ | refine Below.setCell ?_ (by first | exact Nat.le_refl _ | (simp; done) | (simp; omega) | omega) _ | assumption))⟩
set_option maxRecDepth 100000 in
theorem make_Assignment (n : Nat) (hn : n ≤ 1048576) (w : World) : ∃ arr : List Value, arr.length = n * 2 ∧ (Instr.makeSlice 41 (.int .i64 (n : Int)) (.int .i64 (n : Int))).run Try.prog w = .ok (.slice (some ⟨w.heap.size, 0, none⟩) n n) (w.alloc (.cells ⟨arr⟩ 73)) := by
  obtain ⟨i0, hi, hz0, hz1, hz2⟩ := info_parts info_Assignment
  have h := run_make w 41 73 i0 _ Try.underlying41 hi hz0 .i64 .i64 (n : Int) (n : Int) (by omega) (by omega) (by rw [hz2]; omega) (by omega)
  rw [h]
  simp only [Int.toNat_natCast, hz1]
  refine ⟨(madeCells _ (n * 2)).toList, ?_, rfl⟩
  rw [Array.length_toList, size_madeCells]
set_option maxRecDepth 100000 in
set_option maxHeartbeats 1000000 in
theorem toAssignmentS_k (a : Option Addr) (cap : Nat) (l : List AssignmentD) (n : Nat) (w : World) (hr : Sl w a 2 n (AssignmentD.at l)) (hn : n ≤ 1048576) :
    Calls Try.prog 50 #[.slice a n cap] w (GivesC w 2 n (AssignmentD.at l)) := by
  obtain ⟨arr0, ha0, hmk⟩ := make_Assignment n hn w
  have HR := Lib.hid hr
  have HA := Lib.hid ha0
  clear hr ha0
  go_enter Try.func50, Try.ntmps50
  go_wp2
  go_loopw [4] (fun i wr => ∃ (k : Nat) (arr : List Value) (X : Array Obj) (d : Nat), k ≤ n ∧ i = .int .i64 k ∧ Filled arr 2 n k (AssignmentD.at l) ∧ wr = more (w.alloc (.cells ⟨arr⟩ 73)) X d) (fun i _ => n - (intOf i).toNat)
  case atStart => exact ⟨0, arr0, #[], _, by omega, rfl, .start HA.out, more_self' _⟩
  case round =>
    obtain ⟨k, arr, X, d, hk, rfl, hf, rfl⟩ := hrel
    have HF := Lib.hid hf
    clear hf
    by_cases hlt : k < n
    · have hk1 : (k : Int) < (n : Int) := by omega
      obtain ⟨b, o, rfl, hb, hc⟩ := HR.out (by omega)
      have HC := Lib.hid hc
      clear hc
      have hrow := row_lt (s := 2) (Nat.lt_succ_self k) (show k + 1 ≤ n from hlt)
      have g0 : k * 2 < arr.length := by rw [HF.out.1]; omega
      have g1 : k * 2 + 1 < arr.length := by rw [HF.out.1]; omega
      have hat : AssignmentD.at l k = (l.getD k default).cells := rfl
      have c0 : w.cell? ⟨b, o + k * 2, none⟩ = some (.string (l.getD k default).f0) := HC.out k hlt 0 (by omega)
      have c1 : w.cell? ⟨b, o + k * 2 + 1, none⟩ = some (.int .i64 (l.getD k default).f1) := HC.out k hlt 1 (by omega)
      generalize l.getD k default = x at *
      have HT := Lib.hid hat
      clear hat hrow
      go_wp2_with (go_at_call 83; refine (toAssignment_c x _).mono ?_; rintro e wn ⟨rfl, hbn⟩; obtain ⟨X, nX, rfl⟩ := Below.ext hbn; clear hbn)
      go_roundw
      case rel => exact ⟨k + 1, setRow arr (k * 2) x.cells, _, _, by omega, by go_num, HF.out.next hlt rfl (fun j _ => by rw [HT.out]), rfl⟩
      case measure => simp [intOf]; omega
    · have hk' : k = n := by omega
      have HK := Lib.hid hk'
      clear hk'
      go_wp2
      go_ret
      have hff := HF.out
      rw [HK.out] at hff
      exact ⟨_, _, rfl, ow_new (e := 73) (by rw [heap_more _ (by simp), heap_alloc_new]) (Nat.le_refl _) (by simp; omega) (by rw [hff.1]; exact Nat.le_refl _) hff.2, (by repeat (first | exact Below.refl _ _ | refine Below.drew ?_ | refine Below.alloc ?_ (by first | exact Nat.le_refl _ | (simp; done) | (simp; omega) | omega) _ | refine Below.more ?_ (by first | exact Nat.le_refl _ | (simp; done) | (simp; omega) | omega) _ _ | refine Below.setCell ?_ (by first | exact Nat.le_refl _ | (simp; done) | (simp; omega) | omega) _ | assumption)), Nat.le_refl _⟩
theorem toAssignmentS_c (a : Option Addr) (cap : Nat) (l : List AssignmentD) (n : Nat) (w : World) (hr : Sl w a 2 n (AssignmentD.at l)) (hn : n ≤ 1048576) :
    Calls Try.prog 50 #[.slice a n cap] w (Gives w 2 n (AssignmentD.at l)) := (toAssignmentS_k a cap l n w hr hn).mono fun _ _ h => h.gives
set_option maxRecDepth 100000 in
theorem eqAssignment_c (x : AssignmentD) (w : World) : Calls Try.prog 85 #[.agg ⟨x.cells⟩, .agg ⟨x.cells⟩] w fun e w' => e = .returned (.bool true) ∧ Below w.heap.size w w' := by
  obtain ⟨f0, f1⟩ := x
  go_enter Try.func85, Try.ntmps85
  go_wp2
  all_goals (go_ret; exact ⟨rfl, (by repeat (first | exact Below.refl _ _ | refine Below.drew ?_ | refine Below.alloc ?_ (by first | exact Nat.le_refl _ | (simp; done) | (simp; omega) | omega) _ | refine Below.more ?_ (by first | exact Nat.le_refl _ | (simp; done) | (simp; omega) | omega) _ _ | refine Below.setCell ?_ (by first | exact Nat.le_refl _ | (simp; done) | (simp; omega) | omega) _ | assumption))⟩)
set_option maxRecDepth 100000 in
set_option maxHeartbeats 1000000 in
theorem eqAssignmentS_c (a a' : Option Addr) (cap cap' : Nat) (l : List AssignmentD) (n : Nat) (w : World) (hr : Sl w a 2 n (AssignmentD.at l)) (hr' : Sl w a' 2 n (AssignmentD.at l)) (hn : n ≤ 9223372036854775807) :
    Calls Try.prog 52 #[.slice a n cap, .slice a' n cap'] w fun e w' => e = .returned (.bool true) ∧ Below w.heap.size w w' := by
  have HR := Lib.hid hr
  have HR' := Lib.hid hr'
  clear hr hr'
  go_enter Try.func52, Try.ntmps52
  go_wp2
  go_loopw [5] (fun i wr => ∃ (k d : Nat) (X : Array Obj), k ≤ n ∧ i = .int .i64 k ∧ wr = more w X d) (fun i _ => n - (intOf i).toNat)
  case atStart => exact ⟨0, _, #[], by omega, rfl, more_self' w⟩
  case round =>
    obtain ⟨k, d, X0, hk, rfl, rfl⟩ := hrel
    by_cases hlt : k < n
    · have hk1 : (k : Int) < (n : Int) := by omega
      have hk0 : (0 : Int) ≤ (k : Int) := by omega
      obtain ⟨b, o, rfl, hb, hc⟩ := HR.out (by omega)
      have HC := Lib.hid hc
      clear hc
      obtain ⟨b', o', rfl, hb', hc'⟩ := HR'.out (by omega)
      have HC2 := Lib.hid hc'
      clear hc'
      have c0 : w.cell? ⟨b, o + k * 2, none⟩ = some (.string (l.getD k default).f0) := HC.out k hlt 0 (by omega)
      have c1 : w.cell? ⟨b, o + k * 2 + 1, none⟩ = some (.int .i64 (l.getD k default).f1) := HC.out k hlt 1 (by omega)
      have e0 : w.cell? ⟨b', o' + k * 2, none⟩ = some (.string (l.getD k default).f0) := HC2.out k hlt 0 (by omega)
      have e1 : w.cell? ⟨b', o' + k * 2 + 1, none⟩ = some (.int .i64 (l.getD k default).f1) := HC2.out k hlt 1 (by omega)
      generalize l.getD k default = x at *
      go_wp2
      (first | refine region_q2 (by kernel_rfl) (by kernel_rfl) ?_ | refine region_q (by kernel_rfl) (by kernel_rfl) ?_)
      repeat (quiet_step (fail))
      (refine wpQuiet_step (fun K hK => ?_); go_simp; refine ⟨_, fun zt => ext_below (eqAssignment_c x _), hK _ ?_⟩; clear hK K)
      repeat (quiet_step (fail))
      (refine wpQuiet_nil ?_; intro X nX)
      go_wp2
      go_roundw
      case rel => exact ⟨k + 1, _, _, by omega, by go_num, rfl⟩
      case measure => simp [intOf]; omega
    · go_wp2
      go_ret
      exact ⟨rfl, (by repeat (first | exact Below.refl _ _ | refine Below.drew ?_ | refine Below.alloc ?_ (by first | exact Nat.le_refl _ | (simp; done) | (simp; omega) | omega) _ | refine Below.more ?_ (by first | exact Nat.le_refl _ | (simp; done) | (simp; omega) | omega) _ _ | refine Below.setCell ?_ (by first | exact Nat.le_refl _ | (simp; done) | (simp; omega) | omega) _ | assumption))⟩
theorem szAssignment_c (x : AssignmentD) (left : Int) (w : World) (h0 : 0 ≤ left) (h1 : left ≤ 1048576) (hs : x.f0.size ≤ 9223372036854775807) :
    Calls Try.prog 81 #[.agg ⟨x.cells⟩, .int .i64 left] w fun e w' => e = .returned (.int .i64 (if left - x.f0.size < 0 then -1 else left - x.f0.size)) ∧ Below w.heap.size w w' := by
  by_cases hlt : left - x.f0.size < 0
  all_goals
    first | rw [if_pos hlt] | rw [if_neg hlt]
    obtain ⟨f0, f1⟩ := x
    dsimp only at hs hlt ⊢
    go_enter Try.func81, Try.ntmps81
    go_wp2
    all_goals (go_ret; exact ⟨rfl, (by repeat (first | exact Below.refl _ _ | refine Below.drew ?_ | refine Below.alloc ?_ (by first | exact Nat.le_refl _ | (simp; done) | (simp; omega) | omega) _ | refine Below.more ?_ (by first | exact Nat.le_refl _ | (simp; done) | (simp; omega) | omega) _ _ | refine Below.setCell ?_ (by first | exact Nat.le_refl _ | (simp; done) | (simp; omega) | omega) _ | assumption))⟩)
/-- What is left behind a slice's lengths. -/
def AssignmentD.Left (l : List AssignmentD) (n : Nat) (left : Int) (w : World) (e : Ending) (w' : World) : Prop :=
  ∃ r : Int, e = .returned (.int .i64 r) ∧ Below w.heap.size w w' ∧ (r = -1 ∨ (0 ≤ r ∧ r ≤ left - n ∧ ∀ i, i < n → (l.getD i default).f0.size ≤ 1048576))
set_option maxRecDepth 100000 in
set_option maxHeartbeats 1000000 in
theorem szAssignmentS_c (a : Option Addr) (cap : Nat) (l : List AssignmentD) (n : Nat) (left : Int) (w : World) (hr : Sl w a 2 n (AssignmentD.at l)) (h0 : 0 ≤ left) (h1 : left ≤ 1048576) (hnm : n ≤ 9223372036854775807) (hsm : ∀ i, i < n → (l.getD i default).f0.size ≤ 9223372036854775807) :
    Calls Try.prog 48 #[.slice a n cap, .int .i64 left] w (AssignmentD.Left l n left w) := by
  have HR := Lib.hid hr
  have HS := Lib.hid hsm
  clear hr hsm
  by_cases hlt : left - n < 0
  · go_enter Try.func48, Try.ntmps48
    go_wp2
    go_ret
    exact ⟨-1, rfl, (by repeat (first | exact Below.refl _ _ | refine Below.drew ?_ | refine Below.alloc ?_ (by first | exact Nat.le_refl _ | (simp; done) | (simp; omega) | omega) _ | refine Below.more ?_ (by first | exact Nat.le_refl _ | (simp; done) | (simp; omega) | omega) _ _ | refine Below.setCell ?_ (by first | exact Nat.le_refl _ | (simp; done) | (simp; omega) | omega) _ | assumption)), .inl rfl⟩
  · have hln : (n : Int) ≤ left := by omega
    clear hlt
    go_enter Try.func48, Try.ntmps48
    go_wp2
    go_loopw [1, 5] (fun m i wr => ∃ (k d : Nat) (X : Array Obj) (r : Int), k ≤ n ∧ i = .int .i64 k ∧ m = .int .i64 r ∧ 0 ≤ r ∧ r ≤ left - n ∧ (∀ i, i < k → (l.getD i default).f0.size ≤ 1048576) ∧ wr = more w X d) (fun _ i _ => n - (intOf i).toNat)
    case atStart => exact ⟨0, _, #[], left - n, by omega, rfl, rfl, by omega, by omega, fun i hi => by omega, more_self' w⟩
    case round =>
      obtain ⟨k, d, X0, r, hk, rfl, rfl, hr0, hr1, hss, rfl⟩ := hrel
      have H4 := Lib.hid hss
      clear hss
      by_cases hlt : k < n
      · have hk1 : (k : Int) < (n : Int) := by omega
        have hk0 : (0 : Int) ≤ (k : Int) := by omega
        have hsx := HS.out k hlt
        have hgx : (∀ i, i < k + 1 → (l.getD i default).f0.size ≤ 1048576) ∨ ¬ (l.getD k default).f0.size ≤ 1048576 := by
          by_cases hq : (l.getD k default).f0.size ≤ 1048576
          · refine .inl fun i hi => ?_
            by_cases hik : i = k
            · subst hik; exact hq
            · exact H4.out i (by omega)
          · exact .inr hq
        have HGX := Lib.hid hgx
        clear hgx
        obtain ⟨b, o, rfl, hb, hc⟩ := HR.out (by omega)
        have HC := Lib.hid hc
        clear hc
        have c0 : w.cell? ⟨b, o + k * 2, none⟩ = some (.string (l.getD k default).f0) := HC.out k hlt 0 (by omega)
        have c1 : w.cell? ⟨b, o + k * 2 + 1, none⟩ = some (.int .i64 (l.getD k default).f1) := HC.out k hlt 1 (by omega)
        generalize hxx : l.getD k default = x at *
        have HXX := Lib.hid hxx
        clear hxx
        by_cases hneg : r - x.f0.size < 0
        · have hst := szAssignment_c x r
          rw [if_pos hneg] at hst
          have HST := Lib.hid hst
          clear hst
          go_wp2_with (go_at_call 81; refine (HST.out _ (by omega) (by omega) hsx).mono ?_; rintro e wn ⟨rfl, hbn⟩; obtain ⟨X, nX, rfl⟩ := Below.ext hbn; clear hbn)
          go_ret
          exact ⟨-1, rfl, (by repeat (first | exact Below.refl _ _ | refine Below.drew ?_ | refine Below.alloc ?_ (by first | exact Nat.le_refl _ | (simp; done) | (simp; omega) | omega) _ | refine Below.more ?_ (by first | exact Nat.le_refl _ | (simp; done) | (simp; omega) | omega) _ _ | refine Below.setCell ?_ (by first | exact Nat.le_refl _ | (simp; done) | (simp; omega) | omega) _ | assumption)), .inl rfl⟩
        · have hst := szAssignment_c x r
          rw [if_neg hneg] at hst
          have HST := Lib.hid hst
          clear hst
          go_wp2_with (go_at_call 81; refine (HST.out _ (by omega) (by omega) hsx).mono ?_; rintro e wn ⟨rfl, hbn⟩; obtain ⟨X, nX, rfl⟩ := Below.ext hbn; clear hbn)
          go_roundw
          case rel => exact ⟨k + 1, _, _, r - x.f0.size, by omega, by go_num, rfl, by omega, by omega, HGX.out.resolve_right (by omega), rfl⟩
          case measure => simp [intOf]; omega
      · have hk' : k = n := by omega
        have HK := Lib.hid hk'
        clear hk'
        go_wp2
        go_ret
        have hss := H4.out
        rw [HK.out] at hss
        exact ⟨r, rfl, (by repeat (first | exact Below.refl _ _ | refine Below.drew ?_ | refine Below.alloc ?_ (by first | exact Nat.le_refl _ | (simp; done) | (simp; omega) | omega) _ | refine Below.more ?_ (by first | exact Nat.le_refl _ | (simp; done) | (simp; omega) | omega) _ _ | refine Below.setCell ?_ (by first | exact Nat.le_refl _ | (simp; done) | (simp; omega) | omega) _ | assumption)), .inr ⟨hr0, hr1, hss⟩⟩
/-- The cells of an element that bears the marks. -/
def AssignmentD.mks (l : List AssignmentD) (k0 i : Nat) : List Value := [.string (mtext (k0 + i * 2 + 0)), .int .i64 ((k0 : Int) + (i : Int) * 2 + 1)]
theorem AssignmentD.mks_len (l : List AssignmentD) (k0 i : Nat) : (AssignmentD.mks l k0 i).length = 2 := rfl
theorem markText_iAssignment (x : Int) (m : Nat) (e : x = (m : Int)) (h : m ≤ 1000000000000000) (w : World) : Calls Try.prog 44 #[.int .i64 x] w fun e w' => e = .returned (.string (mtext m)) ∧ Below w.heap.size w w' := by
  subst e; exact markText_c m h w
/-- The first m elements bear the marks, the others what they had. -/
def Assignment.Half (l : List AssignmentD) (k0 n m : Nat) (arr : List Value) : Prop := arr.length ≥ n * 2 ∧ ∀ i, i < n → ∀ j, j < 2 → arr[i * 2 + j]? = (if i < m then AssignmentD.mks l k0 i else AssignmentD.at l i)[j]?
theorem Assignment.Half.next {l : List AssignmentD} {k0 n m : Nat} {arr : List Value} (h : Assignment.Half l k0 n m arr) (hm : m < n) : Assignment.Half l k0 n (m + 1) ((List.set (List.set arr (m * 2) (.string (mtext (k0 + m * 2 + 0)))) (m * 2 + 1) (.int .i64 ((k0 : Int) + (m : Int) * 2 + 1)))) := by
  have hrow := row_lt (s := 2) (Nat.lt_succ_self m) (show m + 1 ≤ n from hm)
  have hlen := h.1
  refine ⟨by simpa using h.1, fun i hi j hj => ?_⟩
  by_cases him : i = m
  · subst him
    rw [if_pos (by omega)]
    have h0 := h.2 i hi
    rw [if_neg (Nat.lt_irrefl i)] at h0
    obtain rfl | rfl : j = 0 ∨ j = 1 := by omega
    · simp only [Nat.mul_one, Nat.add_zero]
      rw [List.getElem?_set_ne (by omega), List.getElem?_set_self (by first | omega | (simp only [List.length_set]; omega))]; rfl
    · rw [List.getElem?_set_self (by first | omega | (simp only [List.length_set]; omega))]; rfl
  · have e : (if i < m + 1 then AssignmentD.mks l k0 i else AssignmentD.at l i) = (if i < m then AssignmentD.mks l k0 i else AssignmentD.at l i) := by
      by_cases h1 : i < m
      · rw [if_pos h1, if_pos (by omega)]
      · rw [if_neg h1, if_neg (by omega)]
    rw [e, ← h.2 i hi j hj]
    have hne : i * 2 + 2 ≤ m * 2 ∨ m * 2 + 2 ≤ i * 2 := by
      rcases Nat.lt_or_gt_of_ne him with q | q
      · exact .inl (by have := Nat.mul_le_mul_right 2 (show i + 1 ≤ m by omega); omega)
      · exact .inr (by have := Nat.mul_le_mul_right 2 (show m + 1 ≤ i by omega); omega)
    rw [List.getElem?_set_ne (by omega), List.getElem?_set_ne (by omega)]
set_option maxRecDepth 100000 in
set_option maxHeartbeats 1000000 in
theorem markAssignmentS_c (a : Option Addr) (cap : Nat) (l : List AssignmentD) (n k0 lo hi : Nat) (w : World) (hown : Ow w lo hi a 2 n (AssignmentD.at l)) (hn : n ≤ 100000000) (hk0 : k0 ≤ 100000000000000) :
    Calls Try.prog 57 #[.slice a n cap, .int .i64 (k0 : Int)] w fun e w' => e = .returned (.int .i64 ((k0 + n * 2 : Nat) : Int)) ∧ Ow w' lo hi a 2 n (AssignmentD.mks l k0) ∧ Chg lo hi w w' := by
  by_cases h00 : n = 0
  · subst h00
    clear hown
    go_enter Try.func57, Try.ntmps57
    go_wp2
    go_rounds 1
    go_ret
    exact ⟨ret_int (by simp), Ow.none, Chg.refl _ _ _⟩
  · obtain ⟨g, arr0, e, rfl, hlo, hhi, hg, hl, hx⟩ := hown (by omega)
    have hgs := (Array.getElem?_eq_some_iff.1 hg).1
    obtain ⟨w0, rfl⟩ : ∃ w0, putB w0 g arr0 e = w := ⟨w, putB_self hg⟩
    simp only [size_putB] at hgs
    have HX := Lib.hid hx
    have HO := Lib.hid hown
    clear hown hg hx
    have HL := Lib.hid hl
    clear hl
    go_enter Try.func57, Try.ntmps57
    go_wp2
    go_loopw [1, 5] (fun k i wr => ∃ (m : Nat) (arr : List Value) (X : Array Obj) (d : Nat), m ≤ n ∧ i = .int .i64 m ∧ k = .int .i64 ((k0 + m * 2 : Nat) : Int) ∧ Assignment.Half l k0 n m arr ∧ wr = more (putB w0 g arr e) X d) (fun _ i _ => n - (intOf i).toNat)
    case atStart => exact ⟨0, arr0, #[], _, by omega, rfl, by simp, ⟨HL.out, fun i hi j hj => by rw [if_neg (by omega)]; exact HX.out i hi j hj⟩, more_self' _⟩
    case round =>
      obtain ⟨m, arr, X, d, hm, rfl, rfl, hf, rfl⟩ := hrel
      have HF := Lib.hid hf
      clear hf
      by_cases hlt : m < n
      · have hk1 : (m : Int) < (n : Int) := by omega
        have hk0' : (0 : Int) ≤ (m : Int) := by omega
        have hrow := row_lt (s := 2) (Nat.lt_succ_self m) (show m + 1 ≤ n from hlt)
        have harr := HF.out.1
        have g0 : m * 2 < arr.length := by omega
        have g1 : m * 2 + 1 < arr.length := by omega
        clear hrow harr
        go_wp2_with (first | (go_at_call 44; refine (markText_iAssignment _ (k0 + m * 2 + 0) (by omega) (by omega) _).mono ?_; rintro e wn ⟨rfl, hbn⟩; obtain ⟨X, nX, rfl⟩ := Below.ext hbn; clear hbn))
        refine ⟨⟨m + 1, (List.set (List.set arr (m * 2) (.string (mtext (k0 + m * 2 + 0)))) (m * 2 + 1) (.int .i64 ((k0 : Int) + (m : Int) * 2 + 1))), _, _, by omega, by go_num, by go_num, HF.out.next hlt, rfl⟩, by simp only [intOf]; omega⟩
      · have hk' : m = n := by omega
        have HK := Lib.hid hk'
        clear hk'
        go_wp2
        go_ret
        have hmm := HF.out
        rw [HK.out] at hmm
        refine ⟨ret_int (by rw [HK.out]), ow_new (e := e) (arr := arr) (by rw [heap_more _ (by simpa using hgs), heap_putB hgs]) hlo hhi hmm.1 (fun i hi j hj => by rw [hmm.2 i hi j hj, if_pos hi]), ?_⟩
        refine ⟨rfl, rfl, rfl, by simp, fun k hk ho => ?_⟩
        have hk2 : k < w0.heap.size := by simpa using hk
        rw [heap_more k (by simpa using hk2), heap_putB_other k (by omega), heap_putB_other k (by omega)]
set_option maxRecDepth 100000 in
theorem open_AssignmentS {H : Type} {enc : TypeId × Value → H} {W : World} {v : Value} {d : DataW H} {p : List MemPlace} {base : Nat} (k : Value.okWide Try.prog W .any base 35 v) (h : DataW.Trod enc Try.prog W 0 (fun _ => true) true 35 v d p) :
    ∃ (a : Option Addr) (cap : Nat) (l : List AssignmentD) (n : Nat), v = .slice a n cap ∧ Hid (l.length = n) ∧ Hid (Sl W a 2 n (AssignmentD.at l)) ∧ n ≤ 9223372036854775807 ∧ ∀ i, i < n → (l.getD i default).f0.size ≤ 9223372036854775807 := by
  obtain ⟨a0, n0, cap0, rfl⟩ := WideShapes.okWide_slice Try.underlying35 k
  obtain ⟨fuel, hf⟩ := h
  obtain ⟨a, n, cap, e, hn, hx⟩ := trod_recs (e := 101) (s := 2) (d := 8) (ts := [9, 3]) Try.underlying35 (by kernel_rfl) (by decide) (by decide +kernel) rfl (v := .slice a0 n0 cap0) (by simpa [Value.cells] using hf)
  obtain ⟨rfl, rfl, rfl⟩ : a = a0 ∧ n = n0 ∧ cap = cap0 := by simp at e; exact ⟨e.1.symm, e.2.1.symm, e.2.2.symm⟩
  unfold maxLen at hn
  by_cases h0 : n = 0
  · subst h0
    exact ⟨_, _, [], 0, rfl, Lib.hid rfl, Lib.hid Sl.none, by omega, fun i hi => absurd hi (Nat.not_lt_zero i)⟩
  · obtain ⟨b, o, rfl, hb, hc⟩ := hx (by omega)
    have get : ∀ i, i < n → ((List.range n).map fun i => (⟨strC (W.cell? ⟨b, o + i * 2 + 0, none⟩), intC (W.cell? ⟨b, o + i * 2 + 1, none⟩)⟩ : AssignmentD)).getD i default = (⟨strC (W.cell? ⟨b, o + i * 2 + 0, none⟩), intC (W.cell? ⟨b, o + i * 2 + 1, none⟩)⟩ : AssignmentD) := by
      intro i hi
      rw [List.getD_eq_getElem?_getD, List.getElem?_map, List.getElem?_range hi]; rfl
    refine ⟨_, _, (List.range n).map fun i => (⟨strC (W.cell? ⟨b, o + i * 2 + 0, none⟩), intC (W.cell? ⟨b, o + i * 2 + 1, none⟩)⟩ : AssignmentD), n, rfl, Lib.hid (by simp), Lib.hid (fun _ => ⟨b, o, rfl, hb, fun i hi j hj => ?_⟩), hn, fun i hi => ?_⟩
    · unfold AssignmentD.at
      rw [get i hi]
      obtain ⟨u, m, y, hu, ht⟩ := hc i hi j hj
      rw [hu]
      obtain rfl | rfl : j = 0 ∨ j = 1 := by omega
      · obtain ⟨z, e1, _, _⟩ := DataW.trod_string Try.underlying9 ht; obtain rfl : u = .string z := by simpa using e1
        simp only [hu, strC]; rfl
      · obtain ⟨z, e1, _, _⟩ := DataW.trod_int Try.underlying3 ht; obtain rfl : u = .int .i64 z := by simpa using e1
        simp only [hu, intC]; rfl
    · rw [get i hi]
      obtain ⟨u, m, y, hu, ht⟩ := hc i hi 0 (by decide)
      obtain ⟨z, e1, _, hz⟩ := DataW.trod_string Try.underlying9 ht; obtain rfl : u = .string z := by simpa using e1
      unfold maxLen at hz; simp only [hu, strC]; exact hz
end Go.Proofs.Ytgennnoplmhckaa
