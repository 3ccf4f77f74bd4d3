/- Mesh2, with SVec, Rows2, Mesh ahead of it. -/
import Derived.Test.YtpfmcobkfofbjaaGreatTrod
import Derived.Test.YtpfmcobkfofbjaaGreatRecs
import Derived.Test.YtpfmcobkfofbjaaGreatSInt
import Derived.Test.YtpfmcobkfofbjaaGreatOpen
namespace Go.Proofs.YtpfmcobkfofbjaaGreat
open Go.RowKit
set_option linter.unusedVariables false
structure VecD where
  f0 : Int
  f1 : Int
  f2 : Int
instance : Inhabited VecD := ⟨⟨0, 0, 0⟩⟩
@[reducible] def VecD.cells (x : VecD) : List Value := [.int .i64 x.f0, .int .i64 x.f1, .int .i64 x.f2]
def VecD.at (l : List VecD) (i : Nat) : List Value := (l.getD i default).cells
theorem VecD.at_len (l : List VecD) (i : Nat) : (VecD.at l i).length = 3 := rfl
theorem info_Vec : (Tryz.prog.info? 43).map (fun i => (i.zero, i.size, i.bytes)) = some (some (.agg #[.int .i64 0, .int .i64 0, .int .i64 0]), 3, 24) := by kernel_rfl
set_option maxRecDepth 100000 in
theorem toVec_c (x : VecD) (w : World) : Calls Tryz.prog 55 #[.agg ⟨x.cells⟩] w fun e w' => e = .returned (.agg ⟨x.cells⟩) ∧ Below w.heap.size w w' := by
  obtain ⟨f0, f1, f2⟩ := x
  go_enter Tryz.func55, Tryz.ntmps55
  go_wp2
  go_returns
  exact ⟨rfl, (by repeat (first | exact Below.refl _ _ | refine Below.drew ?_ | refine Below.alloc ?_ (by first | exact Nat.le_refl _ | (simp; done) | (simp; omega) | omega) _ | refine Below.more ?_ (by first | exact Nat.le_refl _ | (simp; done) | (simp; omega) | omega) _ _ | refine Below.setCell ?_ (by first | exact Nat.le_refl _ | (simp; done) | (simp; omega) | omega) _ | assumption))⟩
set_option maxRecDepth 100000 in
theorem make_Vec (n : Nat) (hn : n ≤ 1048576) (w : World) : ∃ arr : List Value, arr.length = n * 3 ∧ (Instr.makeSlice 27 (.int .i64 (n : Int)) (.int .i64 (n : Int))).run Tryz.prog w = .ok (.slice (some ⟨w.heap.size, 0, none⟩) n n) (w.alloc (.cells ⟨arr⟩ 43)) := by
  obtain ⟨i0, hi, hz0, hz1, hz2⟩ := info_parts info_Vec
  have h := run_make w 27 43 i0 _ Tryz.underlying27 hi hz0 .i64 .i64 (n : Int) (n : Int) (by omega) (by omega) (by rw [hz2]; omega) (by omega)
  rw [h]
  simp only [Int.toNat_natCast, hz1]
  refine ⟨(madeCells _ (n * 3)).toList, ?_, rfl⟩
  rw [Array.length_toList, size_madeCells]
set_option maxRecDepth 100000 in
set_option maxHeartbeats 1000000 in
theorem toVecS_k (a : Option Addr) (cap : Nat) (l : List VecD) (n : Nat) (w : World) (hr : Sl w a 3 n (VecD.at l)) (hn : n ≤ 1048576) :
    Calls Tryz.prog 22 #[.slice a n cap] w (GivesC w 3 n (VecD.at l)) := by
  obtain ⟨arr0, ha0, hmk⟩ := make_Vec n hn w
  have HR := Lib.hid hr
  have HA := Lib.hid ha0
  clear hr ha0
  go_enter Tryz.func22, Tryz.ntmps22
  go_wp2
  go_loopw [4] (fun i wr => ∃ (k : Nat) (arr : List Value) (X : Array Obj) (d : Nat), k ≤ n ∧ i = .int .i64 k ∧ Filled arr 3 n k (VecD.at l) ∧ wr = more (w.alloc (.cells ⟨arr⟩ 43)) X d) (fun i _ => n - (intOf i).toNat)
  case atStart => exact ⟨0, arr0, #[], _, by omega, rfl, .start HA.out, more_self' _⟩
  case round =>
    obtain ⟨k, arr, X, d, hk, rfl, hf, rfl⟩ := hrel
    have HF := Lib.hid hf
    clear hf
    by_cases hlt : k < n
    · have hk1 : (k : Int) < (n : Int) := by omega
      obtain ⟨b, o, rfl, hb, hc⟩ := HR.out (by omega)
      have HC := Lib.hid hc
      clear hc
      have hrow := row_lt (s := 3) (Nat.lt_succ_self k) (show k + 1 ≤ n from hlt)
      have g0 : k * 3 < arr.length := by rw [HF.out.1]; omega
      have g1 : k * 3 + 1 < arr.length := by rw [HF.out.1]; omega
      have g2 : k * 3 + 2 < arr.length := by rw [HF.out.1]; omega
      have hat : VecD.at l k = (l.getD k default).cells := rfl
      have c0 : w.cell? ⟨b, o + k * 3, none⟩ = some (.int .i64 (l.getD k default).f0) := HC.out k hlt 0 (by omega)
      have c1 : w.cell? ⟨b, o + k * 3 + 1, none⟩ = some (.int .i64 (l.getD k default).f1) := HC.out k hlt 1 (by omega)
      have c2 : w.cell? ⟨b, o + k * 3 + 2, none⟩ = some (.int .i64 (l.getD k default).f2) := HC.out k hlt 2 (by omega)
      generalize l.getD k default = x at *
      have HT := Lib.hid hat
      clear hat hrow
      go_wp2_with (go_at_call 55; refine (toVec_c x _).mono ?_; rintro e wn ⟨rfl, hbn⟩; obtain ⟨X, nX, rfl⟩ := Below.ext hbn; clear hbn)
      go_roundw
      case rel => exact ⟨k + 1, setRow arr (k * 3) x.cells, _, _, by omega, by go_num, HF.out.next hlt rfl (fun j _ => by rw [HT.out]), rfl⟩
      case measure => simp [intOf]; omega
    · have hk' : k = n := by omega
      have HK := Lib.hid hk'
      clear hk'
      go_wp2
      go_ret
      have hff := HF.out
      rw [HK.out] at hff
      exact ⟨_, _, rfl, ow_new (e := 43) (by rw [heap_more _ (by simp), heap_alloc_new]) (Nat.le_refl _) (by simp; omega) (by rw [hff.1]; exact Nat.le_refl _) hff.2, (by repeat (first | exact Below.refl _ _ | refine Below.drew ?_ | refine Below.alloc ?_ (by first | exact Nat.le_refl _ | (simp; done) | (simp; omega) | omega) _ | refine Below.more ?_ (by first | exact Nat.le_refl _ | (simp; done) | (simp; omega) | omega) _ _ | refine Below.setCell ?_ (by first | exact Nat.le_refl _ | (simp; done) | (simp; omega) | omega) _ | assumption)), Nat.le_refl _⟩
theorem toVecS_c (a : Option Addr) (cap : Nat) (l : List VecD) (n : Nat) (w : World) (hr : Sl w a 3 n (VecD.at l)) (hn : n ≤ 1048576) :
    Calls Tryz.prog 22 #[.slice a n cap] w (Gives w 3 n (VecD.at l)) := (toVecS_k a cap l n w hr hn).mono fun _ _ h => h.gives
set_option maxRecDepth 100000 in
theorem eqVec_c (x : VecD) (w : World) : Calls Tryz.prog 71 #[.agg ⟨x.cells⟩, .agg ⟨x.cells⟩] w fun e w' => e = .returned (.bool true) ∧ Below w.heap.size w w' := by
  obtain ⟨f0, f1, f2⟩ := x
  go_enter Tryz.func71, Tryz.ntmps71
  go_wp2
  all_goals (go_ret; exact ⟨rfl, (by repeat (first | exact Below.refl _ _ | refine Below.drew ?_ | refine Below.alloc ?_ (by first | exact Nat.le_refl _ | (simp; done) | (simp; omega) | omega) _ | refine Below.more ?_ (by first | exact Nat.le_refl _ | (simp; done) | (simp; omega) | omega) _ _ | refine Below.setCell ?_ (by first | exact Nat.le_refl _ | (simp; done) | (simp; omega) | omega) _ | assumption))⟩)
set_option maxRecDepth 100000 in
set_option maxHeartbeats 1000000 in
theorem eqVecS_c (a a' : Option Addr) (cap cap' : Nat) (l : List VecD) (n : Nat) (w : World) (hr : Sl w a 3 n (VecD.at l)) (hr' : Sl w a' 3 n (VecD.at l)) (hn : n ≤ 9223372036854775807) :
    Calls Tryz.prog 31 #[.slice a n cap, .slice a' n cap'] w fun e w' => e = .returned (.bool true) ∧ Below w.heap.size w w' := by
  have HR := Lib.hid hr
  have HR' := Lib.hid hr'
  clear hr hr'
  go_enter Tryz.func31, Tryz.ntmps31
  go_wp2
  go_loopw [5] (fun i wr => ∃ (k d : Nat) (X : Array Obj), k ≤ n ∧ i = .int .i64 k ∧ wr = more w X d) (fun i _ => n - (intOf i).toNat)
  case atStart => exact ⟨0, _, #[], by omega, rfl, more_self' w⟩
  case round =>
    obtain ⟨k, d, X0, hk, rfl, rfl⟩ := hrel
    by_cases hlt : k < n
    · have hk1 : (k : Int) < (n : Int) := by omega
      have hk0 : (0 : Int) ≤ (k : Int) := by omega
      obtain ⟨b, o, rfl, hb, hc⟩ := HR.out (by omega)
      have HC := Lib.hid hc
      clear hc
      obtain ⟨b', o', rfl, hb', hc'⟩ := HR'.out (by omega)
      have HC2 := Lib.hid hc'
      clear hc'
      have c0 : w.cell? ⟨b, o + k * 3, none⟩ = some (.int .i64 (l.getD k default).f0) := HC.out k hlt 0 (by omega)
      have c1 : w.cell? ⟨b, o + k * 3 + 1, none⟩ = some (.int .i64 (l.getD k default).f1) := HC.out k hlt 1 (by omega)
      have c2 : w.cell? ⟨b, o + k * 3 + 2, none⟩ = some (.int .i64 (l.getD k default).f2) := HC.out k hlt 2 (by omega)
      have e0 : w.cell? ⟨b', o' + k * 3, none⟩ = some (.int .i64 (l.getD k default).f0) := HC2.out k hlt 0 (by omega)
      have e1 : w.cell? ⟨b', o' + k * 3 + 1, none⟩ = some (.int .i64 (l.getD k default).f1) := HC2.out k hlt 1 (by omega)
      have e2 : w.cell? ⟨b', o' + k * 3 + 2, none⟩ = some (.int .i64 (l.getD k default).f2) := HC2.out k hlt 2 (by omega)
      generalize l.getD k default = x at *
      go_wp2
      (first | refine region_q2 (by kernel_rfl) (by kernel_rfl) ?_ | refine region_q (by kernel_rfl) (by kernel_rfl) ?_)
      repeat (quiet_step (fail))
      (refine wpQuiet_step (fun K hK => ?_); go_simp; refine ⟨_, fun zt => ext_below (eqVec_c x _), hK _ ?_⟩; clear hK K)
      repeat (quiet_step (fail))
      (refine wpQuiet_nil ?_; intro X nX)
      go_wp2
      go_roundw
      case rel => exact ⟨k + 1, _, _, by omega, by go_num, rfl⟩
      case measure => simp [intOf]; omega
    · go_wp2
      go_ret
      exact ⟨rfl, (by repeat (first | exact Below.refl _ _ | refine Below.drew ?_ | refine Below.alloc ?_ (by first | exact Nat.le_refl _ | (simp; done) | (simp; omega) | omega) _ | refine Below.more ?_ (by first | exact Nat.le_refl _ | (simp; done) | (simp; omega) | omega) _ _ | refine Below.setCell ?_ (by first | exact Nat.le_refl _ | (simp; done) | (simp; omega) | omega) _ | assumption))⟩
/-- What is left behind a slice's length. -/
def Vec.szI (left : Int) (n : Nat) : Int := if left - n < 0 then -1 else left - n
theorem szVecS_c (a : Option Addr) (cap n : Nat) (left : Int) (w : World) (h0 : 0 ≤ left) (h1 : left ≤ 1048576) (hn : n ≤ 9223372036854775807) :
    Calls Tryz.prog 14 #[.slice a n cap, .int .i64 left] w fun e w' => e = .returned (.int .i64 (Vec.szI left n)) ∧ w = w' := by
  by_cases hlt : left - n < 0
  · have hs : Vec.szI left n = -1 := by unfold Vec.szI; rw [if_pos hlt]
    have HS := Lib.hid hs
    clear hs
    go_enter Tryz.func14, Tryz.ntmps14
    go_wp2
    go_ret
    exact ⟨ret_int HS.out.symm, rfl⟩
  · have hs : Vec.szI left n = left - n := by unfold Vec.szI; rw [if_neg hlt]
    have HS := Lib.hid hs
    clear hs
    go_enter Tryz.func14, Tryz.ntmps14
    go_wp2
    go_ret
    exact ⟨ret_int HS.out.symm, rfl⟩
/-- The cells of an element that bears the marks. -/
def VecD.mks (l : List VecD) (k0 i : Nat) : List Value := [.int .i64 ((k0 : Int) + (i : Int) * 3), .int .i64 ((k0 : Int) + (i : Int) * 3 + 1), .int .i64 ((k0 : Int) + (i : Int) * 3 + 1 + 1)]
theorem VecD.mks_len (l : List VecD) (k0 i : Nat) : (VecD.mks l k0 i).length = 3 := rfl
/-- The first m elements bear the marks, the others what they had. -/
def Vec.Half (l : List VecD) (k0 n m : Nat) (arr : List Value) : Prop := arr.length ≥ n * 3 ∧ ∀ i, i < n → ∀ j, j < 3 → arr[i * 3 + j]? = (if i < m then VecD.mks l k0 i else VecD.at l i)[j]?
theorem Vec.Half.next {l : List VecD} {k0 n m : Nat} {arr : List Value} (h : Vec.Half l k0 n m arr) (hm : m < n) : Vec.Half l k0 n (m + 1) ((List.set (List.set (List.set arr (m * 3) (.int .i64 ((k0 : Int) + (m : Int) * 3))) (m * 3 + 1) (.int .i64 ((k0 : Int) + (m : Int) * 3 + 1))) (m * 3 + 2) (.int .i64 ((k0 : Int) + (m : Int) * 3 + 1 + 1)))) := by
  have hrow := row_lt (s := 3) (Nat.lt_succ_self m) (show m + 1 ≤ n from hm)
  have hlen := h.1
  refine ⟨by simpa using h.1, fun i hi j hj => ?_⟩
  by_cases him : i = m
  · subst him
    rw [if_pos (by omega)]
    have h0 := h.2 i hi
    rw [if_neg (Nat.lt_irrefl i)] at h0
    obtain rfl | rfl | rfl : j = 0 ∨ j = 1 ∨ j = 2 := by omega
    · (try simp only [Nat.mul_one]); (try simp only [Nat.add_zero])
      rw [List.getElem?_set_ne (by omega), List.getElem?_set_ne (by omega), List.getElem?_set_self (by first | omega | (simp only [List.length_set]; omega))]; rfl
    · rw [List.getElem?_set_ne (by omega), List.getElem?_set_self (by first | omega | (simp only [List.length_set]; omega))]; rfl
    · rw [List.getElem?_set_self (by first | omega | (simp only [List.length_set]; omega))]; rfl
  · have e : (if i < m + 1 then VecD.mks l k0 i else VecD.at l i) = (if i < m then VecD.mks l k0 i else VecD.at l i) := by
      by_cases h1 : i < m
      · rw [if_pos h1, if_pos (by omega)]
      · rw [if_neg h1, if_neg (by omega)]
    rw [e, ← h.2 i hi j hj]
    have hne : i * 3 + 3 ≤ m * 3 ∨ m * 3 + 3 ≤ i * 3 := by
      rcases Nat.lt_or_gt_of_ne him with q | q
      · exact .inl (by have := Nat.mul_le_mul_right 3 (show i + 1 ≤ m by omega); omega)
      · exact .inr (by have := Nat.mul_le_mul_right 3 (show m + 1 ≤ i by omega); omega)
    rw [List.getElem?_set_ne (by omega), List.getElem?_set_ne (by omega), List.getElem?_set_ne (by omega)]
set_option maxRecDepth 100000 in
set_option maxHeartbeats 1000000 in
theorem markVecS_c (a : Option Addr) (cap : Nat) (l : List VecD) (n k0 lo hi : Nat) (w : World) (hown : Ow w lo hi a 3 n (VecD.at l)) (hn : n ≤ 100000000) (hk0 : k0 ≤ 100000000000000) :
    Calls Tryz.prog 33 #[.slice a n cap, .int .i64 (k0 : Int)] w fun e w' => e = .returned (.int .i64 ((k0 + n * 3 : Nat) : Int)) ∧ Ow w' lo hi a 3 n (VecD.mks l k0) ∧ Chg lo hi w w' := by
  by_cases h00 : n = 0
  · subst h00
    clear hown
    go_enter Tryz.func33, Tryz.ntmps33
    go_wp2
    go_rounds 1
    go_ret
    exact ⟨ret_int (by simp), Ow.none, Chg.refl _ _ _⟩
  · obtain ⟨g, arr0, e, rfl, hlo, hhi, hg, hl, hx⟩ := hown (by omega)
    have hgs := (Array.getElem?_eq_some_iff.1 hg).1
    obtain ⟨w0, rfl⟩ : ∃ w0, putB w0 g arr0 e = w := ⟨w, putB_self hg⟩
    simp only [size_putB] at hgs
    have HX := Lib.hid hx
    have HO := Lib.hid hown
    clear hown hg hx
    have HL := Lib.hid hl
    clear hl
    go_enter Tryz.func33, Tryz.ntmps33
    go_wp2
    go_loopw [1, 5] (fun k i wr => ∃ (m : Nat) (arr : List Value) (X : Array Obj) (d : Nat), m ≤ n ∧ i = .int .i64 m ∧ k = .int .i64 ((k0 + m * 3 : Nat) : Int) ∧ Vec.Half l k0 n m arr ∧ wr = more (putB w0 g arr e) X d) (fun _ i _ => n - (intOf i).toNat)
    case atStart => exact ⟨0, arr0, #[], _, by omega, rfl, by simp, ⟨HL.out, fun i hi j hj => by rw [if_neg (by omega)]; exact HX.out i hi j hj⟩, more_self' _⟩
    case round =>
      obtain ⟨m, arr, X, d, hm, rfl, rfl, hf, rfl⟩ := hrel
      have HF := Lib.hid hf
      clear hf
      by_cases hlt : m < n
      · have hk1 : (m : Int) < (n : Int) := by omega
        have hk0' : (0 : Int) ≤ (m : Int) := by omega
        have hrow := row_lt (s := 3) (Nat.lt_succ_self m) (show m + 1 ≤ n from hlt)
        have harr := HF.out.1
        have g0 : m * 3 < arr.length := by omega
        have g1 : m * 3 + 1 < arr.length := by omega
        have g2 : m * 3 + 2 < arr.length := by omega
        clear hrow harr
        go_wp2
        refine ⟨⟨m + 1, (List.set (List.set (List.set arr (m * 3) (.int .i64 ((k0 : Int) + (m : Int) * 3))) (m * 3 + 1) (.int .i64 ((k0 : Int) + (m : Int) * 3 + 1))) (m * 3 + 2) (.int .i64 ((k0 : Int) + (m : Int) * 3 + 1 + 1))), _, _, by omega, by go_num, by go_num, HF.out.next hlt, rfl⟩, by simp only [intOf]; omega⟩
      · have hk' : m = n := by omega
        have HK := Lib.hid hk'
        clear hk'
        go_wp2
        go_ret
        have hmm := HF.out
        rw [HK.out] at hmm
        refine ⟨ret_int (by rw [HK.out]), ow_new (e := e) (arr := arr) (by rw [heap_more _ (by simpa using hgs), heap_putB hgs]) hlo hhi hmm.1 (fun i hi j hj => by rw [hmm.2 i hi j hj, if_pos hi]), ?_⟩
        refine ⟨rfl, rfl, rfl, by simp, fun k hk ho => ?_⟩
        have hk2 : k < w0.heap.size := by simpa using hk
        rw [heap_more k (by simpa using hk2), heap_putB_other k (by omega), heap_putB_other k (by omega)]
set_option maxRecDepth 100000 in
set_option maxHeartbeats 1000000 in
theorem heldVecS_c (a : Option Addr) (cap : Nat) (l : List VecD) (n k0 : Nat) (w : World) (hr : Sl w a 3 n (VecD.mks l k0)) (hn : n ≤ 100000000) (hk0 : k0 ≤ 100000000000000) :
    Calls Tryz.prog 35 #[.slice a n cap, .int .i64 (k0 : Int)] w fun e w' => e = .returned (.int .i64 ((k0 + n * 3 : Nat) : Int)) ∧ Below w.heap.size w w' := by
  have HR := Lib.hid hr
  clear hr
  go_enter Tryz.func35, Tryz.ntmps35
  go_wp2
  go_loopw [1, 5] (fun k i wr => ∃ (m : Nat) (X : Array Obj) (d : Nat), m ≤ n ∧ i = .int .i64 m ∧ k = .int .i64 ((k0 + m * 3 : Nat) : Int) ∧ wr = more w X d) (fun _ i _ => n - (intOf i).toNat)
  case atStart => exact ⟨0, #[], _, by omega, rfl, by simp, more_self' _⟩
  case round =>
    obtain ⟨m, X, d, hm, rfl, rfl, rfl⟩ := hrel
    by_cases hlt : m < n
    · have hk1 : (m : Int) < (n : Int) := by omega
      have hk0' : (0 : Int) ≤ (m : Int) := by omega
      obtain ⟨b, o, rfl, hb, hc⟩ := HR.out (by omega)
      have HC := Lib.hid hc
      clear hc
      have c0 : w.cell? ⟨b, o + m * 3, none⟩ = some (.int .i64 ((k0 : Int) + (m : Int) * 3)) := HC.out m hlt 0 (by omega)
      have c1 : w.cell? ⟨b, o + m * 3 + 1, none⟩ = some (.int .i64 ((k0 : Int) + (m : Int) * 3 + 1)) := HC.out m hlt 1 (by omega)
      have c2 : w.cell? ⟨b, o + m * 3 + 2, none⟩ = some (.int .i64 ((k0 : Int) + (m : Int) * 3 + 1 + 1)) := HC.out m hlt 2 (by omega)
      go_wp2
      go_roundw
      case rel => exact ⟨m + 1, _, _, by omega, by go_num, by go_num, rfl⟩
      case measure => simp [intOf]; omega
    · have hk' : m = n := by omega
      have HK := Lib.hid hk'
      clear hk'
      go_wp2
      go_ret
      exact ⟨ret_int (by rw [HK.out]), (by repeat (first | exact Below.refl _ _ | refine Below.drew ?_ | refine Below.alloc ?_ (by first | exact Nat.le_refl _ | (simp; done) | (simp; omega) | omega) _ | refine Below.more ?_ (by first | exact Nat.le_refl _ | (simp; done) | (simp; omega) | omega) _ _ | refine Below.setCell ?_ (by first | exact Nat.le_refl _ | (simp; done) | (simp; omega) | omega) _ | assumption))⟩
set_option maxRecDepth 100000 in
theorem open_VecS {H : Type} {enc : TypeId × Value → H} {W : World} {v : Value} {d : DataW H} {p : List MemPlace} {base : Nat} (k : Value.okWide Tryz.prog W .any base 22 v) (h : DataW.Trod enc Tryz.prog W 0 (fun _ => true) true 22 v d p) :
    ∃ (a : Option Addr) (cap : Nat) (l : List VecD) (n : Nat), v = .slice a n cap ∧ Hid (l.length = n) ∧ Hid (Sl W a 3 n (VecD.at l)) ∧ n ≤ 9223372036854775807 := by
  obtain ⟨a0, n0, cap0, rfl⟩ := WideShapes.okWide_slice Tryz.underlying22 k
  obtain ⟨fuel, hf⟩ := h
  obtain ⟨a, n, cap, e, hn, hx⟩ := trod_recs (e := 76) (s := 3) (d := 8) (ts := [3, 3, 3]) Tryz.underlying22 (by kernel_rfl) (by decide) (by decide +kernel) rfl (v := .slice a0 n0 cap0) (by simpa [Value.cells] using hf)
  obtain ⟨rfl, rfl, rfl⟩ : a = a0 ∧ n = n0 ∧ cap = cap0 := by simp at e; exact ⟨e.1.symm, e.2.1.symm, e.2.2.symm⟩
  unfold maxLen at hn
  by_cases h0 : n = 0
  · subst h0
    exact ⟨_, _, [], 0, rfl, Lib.hid rfl, Lib.hid Sl.none, by omega⟩
  · obtain ⟨b, o, rfl, hb, hc⟩ := hx (by omega)
    have get : ∀ i, i < n → ((List.range n).map fun i => (⟨intC (W.cell? ⟨b, o + i * 3 + 0, none⟩), intC (W.cell? ⟨b, o + i * 3 + 1, none⟩), intC (W.cell? ⟨b, o + i * 3 + 2, none⟩)⟩ : VecD)).getD i default = (⟨intC (W.cell? ⟨b, o + i * 3 + 0, none⟩), intC (W.cell? ⟨b, o + i * 3 + 1, none⟩), intC (W.cell? ⟨b, o + i * 3 + 2, none⟩)⟩ : VecD) := by
      intro i hi
      rw [List.getD_eq_getElem?_getD, List.getElem?_map, List.getElem?_range hi]; rfl
    refine ⟨_, _, (List.range n).map fun i => (⟨intC (W.cell? ⟨b, o + i * 3 + 0, none⟩), intC (W.cell? ⟨b, o + i * 3 + 1, none⟩), intC (W.cell? ⟨b, o + i * 3 + 2, none⟩)⟩ : VecD), n, rfl, Lib.hid (by simp), Lib.hid (fun _ => ⟨b, o, rfl, hb, fun i hi j hj => ?_⟩), hn⟩
    · unfold VecD.at
      rw [get i hi]
      obtain ⟨u, m, y, hu, ht⟩ := hc i hi j hj
      rw [hu]
      obtain rfl | rfl | rfl : j = 0 ∨ j = 1 ∨ j = 2 := by omega
      · obtain ⟨z, e1, _, _⟩ := DataW.trod_int Tryz.underlying3 ht; obtain rfl : u = .int .i64 z := by simpa using e1
        simp only [hu, intC]; rfl
      · obtain ⟨z, e1, _, _⟩ := DataW.trod_int Tryz.underlying3 ht; obtain rfl : u = .int .i64 z := by simpa using e1
        simp only [hu, intC]; rfl
      · obtain ⟨z, e1, _, _⟩ := DataW.trod_int Tryz.underlying3 ht; obtain rfl : u = .int .i64 z := by simpa using e1
        simp only [hu, intC]; rfl

end Go.Proofs.YtpfmcobkfofbjaaGreat
namespace Go.Proofs.YtpfmcobkfofbjaaGreat
open Go Go.RowKit
def upd {α : Type} (A : Nat → α) (k : Nat) (a : α) : Nat → α := fun i => if i = k then a else A i
theorem upd_self {α : Type} {A : Nat → α} {k : Nat} {a : α} : upd A k a k = a := by simp [upd]
theorem upd_lt {α : Type} {A : Nat → α} {k i : Nat} {a : α} (h : i < k) : upd A k a i = A i := by simp [upd, Nat.ne_of_lt h]
/-- n slices of integers, each in blocks of its own: those of row i from b i on and before b (i + 1). -/
def RowsB (w : World) (b : Nat → Nat) (n : Nat) (A : Nat → Option Addr) (l : Nat → List Int) : Prop :=
  (∀ i, i < n → b i ≤ b (i + 1)) ∧ ∀ i, i < n → Ow w (b i) (b (i + 1)) (A i) 1 (l i).length (intAt (l i))
theorem RowsB.le {w : World} {b : Nat → Nat} {n : Nat} {A : Nat → Option Addr} {l : Nat → List Int} (h : RowsB w b n A l) : ∀ {i j : Nat}, i ≤ j → j ≤ n → b i ≤ b j := by
  intro i j hij
  induction hij with
  | refl => intro _; exact Nat.le_refl _
  | step hij ih => intro hj; exact Nat.le_trans (ih (by omega)) (h.1 _ (by omega))
def Rows (w : World) (lo hi n : Nat) (A : Nat → Option Addr) (l : Nat → List Int) : Prop := ∃ b : Nat → Nat, lo ≤ b 0 ∧ b n ≤ hi ∧ RowsB w b n A l
theorem Rows.zero {w : World} {lo hi : Nat} {A : Nat → Option Addr} {l : Nat → List Int} (h : lo ≤ hi) : Rows w lo hi 0 A l := ⟨fun _ => lo, Nat.le_refl _, h, fun _ hi => absurd hi (Nat.not_lt_zero _), fun _ hi => absurd hi (Nat.not_lt_zero _)⟩
theorem Rows.chg {w w' : World} {lo hi lo' hi' n : Nat} {A : Nat → Option Addr} {l : Nat → List Int} (h : Rows w lo hi n A l) (k : Chg lo' hi' w w') (hd : hi ≤ lo' ∨ hi' ≤ lo) : Rows w' lo hi n A l := by
  obtain ⟨b, h1, h2, hb⟩ := h
  refine ⟨b, h1, h2, hb.1, fun i hi => (hb.2 i hi).chg k ?_⟩
  have e1 := hb.le (Nat.zero_le i) (Nat.le_of_lt hi)
  have e2 := hb.le (show i + 1 ≤ n by omega) (Nat.le_refl n)
  omega
theorem Rows.below {w w' : World} {lo hi n : Nat} {A : Nat → Option Addr} {l : Nat → List Int} (h : Rows w lo hi n A l) (k : Below w.heap.size w w') : Rows w' lo hi n A l :=
  h.chg (Chg.of_below (lo := hi) (hi := hi) k) (.inl (Nat.le_refl _))
theorem Rows.at {w : World} {lo hi n : Nat} {A : Nat → Option Addr} {l : Nat → List Int} (h : Rows w lo hi n A l) {i : Nat} (hi' : i < n) : Ow w lo hi (A i) 1 (l i).length (intAt (l i)) := by
  obtain ⟨b, h1, h2, hb⟩ := h
  have e1 := hb.le (Nat.zero_le i) (Nat.le_of_lt hi')
  have e2 := hb.le (show i + 1 ≤ n by omega) (Nat.le_refl n)
  exact (hb.2 i hi').wide (by omega) (by omega)
theorem Rows.snoc {w : World} {lo hi lo2 hi2 k : Nat} {A : Nat → Option Addr} {l : Nat → List Int} {a : Option Addr} (h : Rows w lo hi k A l) (ho : Ow w lo2 hi2 a 1 (l k).length (intAt (l k))) (h1 : hi ≤ lo2) (h2 : lo2 ≤ hi2) : Rows w lo hi2 (k + 1) (upd A k a) l := by
  obtain ⟨b, b1, b2, hb⟩ := h
  refine ⟨fun i => if i ≤ k then b i else hi2, by simpa using b1, (by show (if k + 1 ≤ k then b (k + 1) else hi2) ≤ hi2; rw [if_neg (by omega)]; exact Nat.le_refl _), fun i hi => ?_, fun i hi => ?_⟩
  · by_cases hik : i = k
    · subst hik
      show (if i ≤ i then b i else hi2) ≤ (if i + 1 ≤ i then b (i + 1) else hi2)
      rw [if_pos (Nat.le_refl _), if_neg (by omega)]; omega
    · have h3 : i < k := by omega
      simp only [show i ≤ k by omega, show i + 1 ≤ k by omega, if_true]
      exact hb.1 i h3
  · by_cases hik : i = k
    · subst hik
      simp only [Nat.le_refl, if_true, show ¬ i + 1 ≤ i by omega, if_false, upd_self]
      exact ho.wide (by omega) (Nat.le_refl _)
    · have h3 : i < k := by omega
      simp only [show i ≤ k by omega, show i + 1 ≤ k by omega, if_true, upd_lt h3]
      exact hb.2 i h3
theorem Rows.wide {w : World} {lo hi lo' hi' n : Nat} {A : Nat → Option Addr} {l : Nat → List Int} (h : Rows w lo hi n A l) (h1 : lo' ≤ lo) (h2 : hi ≤ hi') : Rows w lo' hi' n A l := by
  obtain ⟨b, b1, b2, hb⟩ := h
  exact ⟨b, by omega, by omega, hb⟩
theorem Rows.congr {w : World} {lo hi n : Nat} {A B : Nat → Option Addr} {l : Nat → List Int} (h : Rows w lo hi n A l) (e : ∀ i, i < n → A i = B i) : Rows w lo hi n B l := by
  obtain ⟨b, b1, b2, hb⟩ := h
  exact ⟨b, b1, b2, hb.1, fun i hi => by rw [← e i hi]; exact hb.2 i hi⟩
theorem heap_more_past {A : World} {X : Array Obj} {d k : Nat} (h : A.heap.size ≤ k) : (more A X d).heap[k]? = X[k - A.heap.size]? := by
  simp only [more]
  rw [Array.getElem?_append_right h]
/-- What lies behind a world lies there behind another of the same size. -/
theorem Ow.move {A B : World} {X : Array Obj} {d d' lo hi s n : Nat} {a : Option Addr} {C : Nat → List Value} (h : Ow (more A X d) lo hi a s n C) (hlo : A.heap.size ≤ lo) (hs : B.heap.size = A.heap.size) : Ow (more B X d') lo hi a s n C := by
  intro hn
  obtain ⟨g, arr, e, rfl, h1, h2, hg, hl, hx⟩ := h hn
  refine ⟨g, arr, e, rfl, h1, h2, ?_, hl, hx⟩
  rw [heap_more_past (by omega)] at hg ⊢
  rw [hs]; exact hg
theorem Rows.move {A B : World} {X : Array Obj} {d d' lo hi n : Nat} {a : Nat → Option Addr} {l : Nat → List Int} (h : Rows (more A X d) lo hi n a l) (hlo : A.heap.size ≤ lo) (hs : B.heap.size = A.heap.size) : Rows (more B X d') lo hi n a l := by
  obtain ⟨b, b1, b2, hb⟩ := h
  exact ⟨b, b1, b2, hb.1, fun i hi => (hb.2 i hi).move (by have := hb.le (Nat.zero_le i) (Nat.le_of_lt hi); omega) hs⟩
theorem more_app {w : World} {X Y : Array Obj} {d d' : Nat} : Below (more w X d).heap.size (more w X d) (more w (X ++ Y) d') :=
  ⟨rfl, rfl, rfl, by simp, fun k hk => by
    have e : (more w (X ++ Y) d').heap = (more w X d).heap ++ Y := by simp [more]
    rw [e, Array.getElem?_append_left hk]⟩
/-- A block of one's own written anew, with more blocks behind it. -/
theorem chg_alloc {w : World} {arr arr' : List Value} {e : TypeId} {X Y : Array Obj} {d d' : Nat} : Chg w.heap.size (w.heap.size + 1) (more (w.alloc (.cells ⟨arr⟩ e)) X d) (more (w.alloc (.cells ⟨arr'⟩ e)) (X ++ Y) d') := by
  refine ⟨rfl, rfl, rfl, by simp, fun k hk ho => ?_⟩
  have e1 : ∀ (a : List Value) (Z : Array Obj) (d : Nat), (more (w.alloc (.cells ⟨a⟩ e)) Z d).heap = (w.heap.push (.cells ⟨a⟩ e)) ++ Z := fun a Z d => rfl
  have hk' : k < w.heap.size + 1 + X.size := by simpa [Nat.add_assoc] using hk
  rw [e1, e1]
  simp only [Array.getElem?_append, Array.size_push]
  rcases ho with ho | ho
  · rw [if_pos (by omega), if_pos (by omega), Array.getElem?_push, Array.getElem?_push, if_neg (by omega), if_neg (by omega)]
  · have hn : ¬ k < w.heap.size + 1 := by omega
    simp only [hn, if_false]
    rw [if_pos (by omega)]
theorem Filled.congr {arr : List Value} {s n k : Nat} {C D : Nat → List Value} (h : Filled arr s n k C) (e : ∀ i, i < k → C i = D i) : Filled arr s n k D :=
  ⟨h.1, fun i hi j hj => by rw [h.2 i hi j hj, e i hi]⟩
end Go.Proofs.YtpfmcobkfofbjaaGreat
namespace Go.Proofs.YtpfmcobkfofbjaaGreat
open Go Go.RowKit
def faceAt (l : List (List Int)) (i : Nat) : List Int := l.getD i []
def facesAt (l : List (List Int)) (A : Nat → Option Addr) (K : Nat → Nat) (i : Nat) : List Value := [.slice (A i) (faceAt l i).length (K i)]
/-- The slice at a reads as the faces l. -/
def FsR (w : World) (a : Option Addr) (n : Nat) (l : List (List Int)) : Prop :=
  ∃ A K, Sl w a 1 n (facesAt l A K) ∧ (∀ i, i < n → Sl w (A i) 1 (faceAt l i).length (intAt (faceAt l i))) ∧ ∀ i, i < n → (faceAt l i).length ≤ K i
/-- .. in blocks of one's own. -/
def FsO (w : World) (lo hi : Nat) (a : Option Addr) (n : Nat) (l : List (List Int)) : Prop :=
  ∃ A K, Ow w lo (lo + 1) a 1 n (facesAt l A K) ∧ Rows w (lo + 1) hi n A (faceAt l) ∧ ∀ i, i < n → (faceAt l i).length ≤ K i
theorem FsR.below {w w' : World} {a : Option Addr} {n : Nat} {l : List (List Int)} (h : FsR w a n l) (b : Below w.heap.size w w') : FsR w' a n l := by
  obtain ⟨A, K, h1, h2, h3⟩ := h
  exact ⟨A, K, h1.below b, fun i hi => (h2 i hi).below b, h3⟩
theorem FsO.r {w : World} {lo hi : Nat} {a : Option Addr} {n : Nat} {l : List (List Int)} (h : FsO w lo hi a n l) : FsR w a n l := by
  obtain ⟨A, K, h1, h2, h3⟩ := h
  exact ⟨A, K, h1.sl, fun i hi => (h2.at hi).sl, h3⟩
theorem FsO.chg {w w' : World} {lo hi lo' hi' : Nat} {a : Option Addr} {n : Nat} {l : List (List Int)} (h : FsO w lo hi a n l) (k : Chg lo' hi' w w') (hd : hi ≤ lo' ∨ hi' ≤ lo) (hl : lo + 1 ≤ hi) : FsO w' lo hi a n l := by
  obtain ⟨A, K, h1, h2, h3⟩ := h
  exact ⟨A, K, h1.chg k (by omega), h2.chg k (by omega), h3⟩
theorem FsO.below {w w' : World} {lo hi : Nat} {a : Option Addr} {n : Nat} {l : List (List Int)} (h : FsO w lo hi a n l) (b : Below w.heap.size w w') : FsO w' lo hi a n l := by
  obtain ⟨A, K, h1, h2, h3⟩ := h
  exact ⟨A, K, h1.below b, h2.below b, h3⟩
theorem FsO.move {A B : World} {X : Array Obj} {d d' lo hi n : Nat} {a : Option Addr} {l : List (List Int)} (h : FsO (more A X d) lo hi a n l) (hlo : A.heap.size ≤ lo) (hs : B.heap.size = A.heap.size) : FsO (more B X d') lo hi a n l := by
  obtain ⟨A', K, h1, h2, h3⟩ := h
  exact ⟨A', K, h1.move hlo hs, h2.move (by omega) hs, h3⟩
/-- A mesh: its vertices, its faces. -/
structure MeshD where
  verts : List VecD
  faces : List (List Int)
  nV : Nat
  nF : Nat
  hV : verts.length = nV
  hF : faces.length = nF
def MeshR (w : World) (v : Value) (p : MeshD) : Prop :=
  ∃ a c a' c', v = .agg #[.slice a p.nV c, .slice a' p.nF c'] ∧ Sl w a 3 p.nV (VecD.at p.verts) ∧ FsR w a' p.nF p.faces
def MeshO (w : World) (lo hi : Nat) (v : Value) (p : MeshD) : Prop :=
  ∃ l1 mid a c a' c', v = .agg #[.slice a p.nV c, .slice a' p.nF c'] ∧ lo ≤ l1 ∧ l1 ≤ mid ∧ mid + 1 ≤ hi ∧ Ow w l1 mid a 3 p.nV (VecD.at p.verts) ∧ FsO w mid hi a' p.nF p.faces
theorem MeshR.below {w w' : World} {v : Value} {p : MeshD} (h : MeshR w v p) (b : Below w.heap.size w w') : MeshR w' v p := by
  obtain ⟨a, c, a', c', e, h1, h2⟩ := h
  exact ⟨a, c, a', c', e, h1.below b, h2.below b⟩
theorem MeshO.r {w : World} {lo hi : Nat} {v : Value} {p : MeshD} (h : MeshO w lo hi v p) : MeshR w v p := by
  obtain ⟨l1, mid, a, c, a', c', e, _, _, _, h1, h2⟩ := h
  exact ⟨a, c, a', c', e, h1.sl, h2.r⟩
theorem MeshO.chg {w w' : World} {lo hi lo' hi' : Nat} {v : Value} {p : MeshD} (h : MeshO w lo hi v p) (k : Chg lo' hi' w w') (hd : hi ≤ lo' ∨ hi' ≤ lo) : MeshO w' lo hi v p := by
  obtain ⟨l1, mid, a, c, a', c', e, k1, k2, k3, h1, h2⟩ := h
  exact ⟨l1, mid, a, c, a', c', e, k1, k2, k3, h1.chg k (by omega), h2.chg k (by omega) k3⟩
theorem MeshO.below {w w' : World} {lo hi : Nat} {v : Value} {p : MeshD} (h : MeshO w lo hi v p) (b : Below w.heap.size w w') : MeshO w' lo hi v p :=
  h.chg (Chg.of_below (lo := hi) (hi := hi) b) (.inl (Nat.le_refl _))
theorem FsO.wide {w : World} {lo hi hi' : Nat} {a : Option Addr} {n : Nat} {l : List (List Int)} (h : FsO w lo hi a n l) (h2 : hi ≤ hi') : FsO w lo hi' a n l := by
  obtain ⟨A, K, k1, k2, k3⟩ := h
  exact ⟨A, K, k1, k2.wide (Nat.le_refl _) h2, k3⟩
theorem MeshO.wide {w : World} {lo hi lo' hi' : Nat} {v : Value} {p : MeshD} (h : MeshO w lo hi v p) (h1 : lo' ≤ lo) (h2 : hi ≤ hi') : MeshO w lo' hi' v p := by
  obtain ⟨l1, mid, a, c, a', c', e, k1, k2, k3, k4, k5⟩ := h
  exact ⟨l1, mid, a, c, a', c', e, by omega, k2, by omega, k4, k5.wide h2⟩
/-- The lengths are within bounds. -/
def MeshSz (B : Nat) (p : MeshD) : Prop := p.nV ≤ B ∧ p.nF ≤ B ∧ ∀ i, i < p.nF → (faceAt p.faces i).length ≤ B
theorem info_Ints : (Tryz.prog.info? 45).map (fun i => (i.zero, i.size, i.bytes)) = some (some (.slice none 0 0), 1, 24) := by kernel_rfl
set_option maxRecDepth 100000 in
theorem make_Ints (n : Nat) (hn : n ≤ 1048576) (w : World) : ∃ arr : List Value, arr.length = n * 1 ∧ (Instr.makeSlice 23 (.int .i64 (n : Int)) (.int .i64 (n : Int))).run Tryz.prog w = .ok (.slice (some ⟨w.heap.size, 0, none⟩) n n) (w.alloc (.cells ⟨arr⟩ 45)) := by
  obtain ⟨i0, hi, hz0, hz1, hz2⟩ := info_parts info_Ints
  have h := run_make w 23 45 i0 _ Tryz.underlying23 hi hz0 .i64 .i64 (n : Int) (n : Int) (by omega) (by omega) (by rw [hz2]; omega) (by omega)
  rw [h]
  simp only [Int.toNat_natCast, hz1]
  refine ⟨(madeCells _ (n * 1)).toList, ?_, rfl⟩
  rw [Array.length_toList, size_madeCells]
/-- Faces of one's own come back. -/
def GivesFaces (w : World) (n : Nat) (l : List (List Int)) (e : Ending) (w' : World) : Prop :=
  ∃ a cap, e = .returned (.slice a n cap) ∧ FsO w' w.heap.size w'.heap.size a n l ∧ Below w.heap.size w w' ∧ w.heap.size + 1 ≤ w'.heap.size
set_option maxRecDepth 100000 in
set_option maxHeartbeats 1000000 in
theorem toIntSS_c (a : Option Addr) (cap : Nat) (l : List (List Int)) (n : Nat) (w : World) (hr : FsR w a n l) (hn : n ≤ 1048576) (hs : ∀ i, i < n → (faceAt l i).length ≤ 1048576) :
    Calls Tryz.prog 23 #[.slice a n cap] w (GivesFaces w n l) := by
  obtain ⟨arr0, ha0, hmk⟩ := make_Ints n hn w
  obtain ⟨A, K, hr1, hr2, hr3⟩ := hr
  have HR := Lib.hid hr1
  have HR2 := Lib.hid hr2
  have HA := Lib.hid ha0
  have HS := Lib.hid hs
  clear hr1 hr2 hr3 ha0 hs
  go_enter Tryz.func23, Tryz.ntmps23
  go_wp2
  go_loopw [4] (fun i wr => ∃ (k : Nat) (arr : List Value) (X : Array Obj) (d : Nat) (A2 : Nat → Option Addr) (K2 : Nat → Nat), k ≤ n ∧ i = .int .i64 k ∧ Filled arr 1 n k (facesAt l A2 K2) ∧ wr = more (w.alloc (.cells ⟨arr⟩ 45)) X d ∧ Rows (more (w.alloc (.cells ⟨arr⟩ 45)) X d) (w.heap.size + 1) (w.heap.size + 1 + X.size) k A2 (faceAt l) ∧ ∀ i, i < k → (faceAt l i).length ≤ K2 i) (fun i _ => n - (intOf i).toNat)
  case atStart => exact ⟨0, arr0, #[], _, fun _ => none, fun _ => 0, by omega, rfl, .start HA.out, more_self' _, Rows.zero (by simp), fun i hi => by omega⟩
  case round =>
    obtain ⟨k, arr, X, d, A2, K2, hk, rfl, hf, rfl, hrows, hcaps⟩ := hrel
    have HF := Lib.hid hf
    have HW := Lib.hid hrows
    have HCP := Lib.hid hcaps
    clear hf hrows hcaps
    by_cases hlt : k < n
    · have hk1 : (k : Int) < (n : Int) := by omega
      obtain ⟨b, o, rfl, hb, hc⟩ := HR.out (by omega)
      have HC := Lib.hid hc
      clear hc
      have g0 : k < arr.length := by rw [HF.out.1]; omega
      have c0 : w.cell? ⟨b, o + k, none⟩ = some (.slice (A k) (faceAt l k).length (K k)) := by have := HC.out k hlt 0 (by omega); rw [Nat.mul_one, Nat.add_zero] at this; exact this
      have hsl : Sl w (A k) 1 (faceAt l k).length (intAt (faceAt l k)) := HR2.out k hlt
      have hsn : (faceAt l k).length ≤ 1048576 := HS.out k hlt
      have hat : ∀ B J, facesAt l B J k = [.slice (B k) (faceAt l k).length (J k)] := fun _ _ => rfl
      have hlk : faceAt l k = faceAt l k := rfl
      generalize hx : faceAt l k = x at c0 hsl hsn hat
      generalize A k = ak at *
      generalize K k = kk at *
      have HT := Lib.hid hat
      have HX := Lib.hid hx
      have HSL := Lib.hid hsl
      clear hat hsl hx hlk
      go_wp2_with (go_at_call 56; refine (toIntS_k ak kk x _ _ (HSL.out.below (by repeat (first | exact Below.refl _ _ | refine Below.drew ?_ | refine Below.alloc ?_ (by first | exact Nat.le_refl _ | (simp; done) | (simp; omega) | omega) _ | refine Below.more ?_ (by first | exact Nat.le_refl _ | (simp; done) | (simp; omega) | omega) _ _ | refine Below.setCell ?_ (by first | exact Nat.le_refl _ | (simp; done) | (simp; omega) | omega) _ | assumption))) hsn).mono ?_; rintro e wn ⟨a', c', rfl, ho, hbn, hcap⟩; have HO := Lib.hid ho; clear ho; obtain ⟨Y, nX, rfl⟩ := Below.ext hbn; clear hbn)
      refine ⟨⟨k + 1, setRow arr (k * 1) [.slice a' x.length c'], X ++ Y, nX, upd A2 k a', upd K2 k c', by omega, by go_num, (HF.out.congr (fun i hi => ?_)).next hlt rfl (fun j _ => by rw [HT.out, upd_self, upd_self]), by simp [setRow], ?_, ?_⟩, by simp only [intOf]; omega⟩
      · unfold facesAt; rw [upd_lt hi, upd_lt hi]
      · have h1 := HO.out
        rw [more_more, ← HX.out] at h1
        exact Rows.snoc ((HW.out.below (more_app (Y := Y) (d' := nX))).move (by simp) (by simp)) ((h1.move (by simp) (by simp)).wide (by simp [Nat.add_assoc]) (by simp [Nat.add_assoc])) (Nat.le_refl _) (by simp)
      · intro i hi
        by_cases hik : i = k
        · subst hik; rw [upd_self, HX.out]; exact hcap
        · rw [upd_lt (by omega)]; exact HCP.out i (by omega)
    · have hk' : k = n := by omega
      have HK := Lib.hid hk'
      clear hk'
      go_wp2
      go_ret
      have hff := HF.out
      have hww := HW.out
      have hcc := HCP.out
      rw [HK.out] at hff hww hcc
      exact ⟨_, _, rfl, ⟨A2, K2, ow_new (e := 45) (by rw [heap_more _ (by simp), heap_alloc_new]) (Nat.le_refl _) (by omega) (by rw [hff.1]; exact Nat.le_refl _) hff.2, by simpa [Nat.add_assoc] using hww, hcc⟩, (by repeat (first | exact Below.refl _ _ | refine Below.drew ?_ | refine Below.alloc ?_ (by first | exact Nat.le_refl _ | (simp; done) | (simp; omega) | omega) _ | refine Below.more ?_ (by first | exact Nat.le_refl _ | (simp; done) | (simp; omega) | omega) _ _ | refine Below.setCell ?_ (by first | exact Nat.le_refl _ | (simp; done) | (simp; omega) | omega) _ | assumption)), by simp⟩
end Go.Proofs.YtpfmcobkfofbjaaGreat
namespace Go.Proofs.YtpfmcobkfofbjaaGreat
open Go Go.RowKit
set_option maxRecDepth 100000 in
set_option maxHeartbeats 1000000 in
theorem eqIntSS_c (a a' : Option Addr) (cap cap' : Nat) (l : List (List Int)) (n : Nat) (w : World) (hr : FsR w a n l) (hr' : FsR w a' n l) (hn : n ≤ 1048576) (hs : ∀ i, i < n → (faceAt l i).length ≤ 1048576) :
    Calls Tryz.prog 32 #[.slice a n cap, .slice a' n cap'] w fun e w' => e = .returned (.bool true) ∧ Below w.heap.size w w' := by
  obtain ⟨A, K, hr1, hr2, _⟩ := hr
  obtain ⟨A', K', hr1', hr2', _⟩ := hr'
  have HR := Lib.hid hr1
  have HR2 := Lib.hid hr2
  have HR' := Lib.hid hr1'
  have HR2' := Lib.hid hr2'
  have HS := Lib.hid hs
  clear hr1 hr1' hr2 hr2' hs
  go_enter Tryz.func32, Tryz.ntmps32
  go_wp2
  go_loopw [5] (fun i wr => ∃ (k d : Nat) (X : Array Obj), k ≤ n ∧ i = .int .i64 k ∧ wr = more w X d) (fun i _ => n - (intOf i).toNat)
  case atStart => exact ⟨0, _, #[], by omega, rfl, more_self' w⟩
  case round =>
    obtain ⟨k, d, X0, hk, rfl, rfl⟩ := hrel
    by_cases hlt : k < n
    · have hk1 : (k : Int) < (n : Int) := by omega
      have hk0 : (0 : Int) ≤ (k : Int) := by omega
      obtain ⟨b, o, rfl, hb, hc⟩ := HR.out (by omega)
      have c0 : w.cell? ⟨b, o + k, none⟩ = some (.slice (A k) (faceAt l k).length (K k)) := by have := hc k hlt 0 (by omega); rw [Nat.mul_one, Nat.add_zero] at this; exact this
      obtain ⟨b', o', rfl, hb', hc'⟩ := HR'.out (by omega)
      have e0 : w.cell? ⟨b', o' + k, none⟩ = some (.slice (A' k) (faceAt l k).length (K' k)) := by have := hc' k hlt 0 (by omega); rw [Nat.mul_one, Nat.add_zero] at this; exact this
      clear hc hc'
      have hsl : Sl w (A k) 1 (faceAt l k).length (intAt (faceAt l k)) := HR2.out k hlt
      have hsl' : Sl w (A' k) 1 (faceAt l k).length (intAt (faceAt l k)) := HR2'.out k hlt
      have hsn : (faceAt l k).length ≤ 1048576 := HS.out k hlt
      generalize faceAt l k = x at *
      generalize A k = ak at *
      generalize K k = kk at *
      generalize A' k = ak' at *
      generalize K' k = kk' at *
      have HSL := Lib.hid hsl
      have HSL' := Lib.hid hsl'
      clear hsl hsl'
      go_wp2
      (first | refine region_q2 (by kernel_rfl) (by kernel_rfl) ?_ | refine region_q (by kernel_rfl) (by kernel_rfl) ?_)
      repeat (quiet_step (fail))
      (refine wpQuiet_step (fun K hK => ?_); go_simp; refine ⟨_, fun zt => ext_below (eqIntS_c _ _ _ _ x _ _ (HSL.out.more _ _) (HSL'.out.more _ _) (by omega)), hK _ ?_⟩; clear hK K)
      repeat (quiet_step (fail))
      (refine wpQuiet_nil ?_; intro X nX)
      go_wp2
      go_roundw
      case rel => exact ⟨k + 1, _, _, by omega, by go_num, rfl⟩
      case measure => simp [intOf]; omega
    · go_wp2
      go_ret
      exact ⟨rfl, (by repeat (first | exact Below.refl _ _ | refine Below.drew ?_ | refine Below.alloc ?_ (by first | exact Nat.le_refl _ | (simp; done) | (simp; omega) | omega) _ | refine Below.more ?_ (by first | exact Nat.le_refl _ | (simp; done) | (simp; omega) | omega) _ _ | refine Below.setCell ?_ (by first | exact Nat.le_refl _ | (simp; done) | (simp; omega) | omega) _ | assumption))⟩
def FsLeft (l : List (List Int)) (n : Nat) (left : Int) (w : World) (e : Ending) (w' : World) : Prop :=
  ∃ r : Int, e = .returned (.int .i64 r) ∧ Below w.heap.size w w' ∧ (r = -1 ∨ (0 ≤ r ∧ r ≤ left - n ∧ ∀ i, i < n → (faceAt l i).length ≤ 1048576))
set_option maxRecDepth 100000 in
set_option maxHeartbeats 1000000 in
theorem szIntSS_c (a : Option Addr) (cap : Nat) (l : List (List Int)) (n : Nat) (left : Int) (w : World) (hr : FsR w a n l) (h0 : 0 ≤ left) (h1 : left ≤ 1048576) (hnm : n ≤ 9223372036854775807) (hsm : ∀ i, i < n → (faceAt l i).length ≤ 9223372036854775807) :
    Calls Tryz.prog 15 #[.slice a n cap, .int .i64 left] w (FsLeft l n left w) := by
  obtain ⟨A, K, hr, hr2, _⟩ := hr
  clear hr2
  have HR := Lib.hid hr
  have HS := Lib.hid hsm
  clear hr hsm
  by_cases hlt : left - n < 0
  · go_enter Tryz.func15, Tryz.ntmps15
    go_wp2
    go_ret
    exact ⟨-1, rfl, (by repeat (first | exact Below.refl _ _ | refine Below.drew ?_ | refine Below.alloc ?_ (by first | exact Nat.le_refl _ | (simp; done) | (simp; omega) | omega) _ | refine Below.more ?_ (by first | exact Nat.le_refl _ | (simp; done) | (simp; omega) | omega) _ _ | refine Below.setCell ?_ (by first | exact Nat.le_refl _ | (simp; done) | (simp; omega) | omega) _ | assumption)), .inl rfl⟩
  · have hln : (n : Int) ≤ left := by omega
    clear hlt
    go_enter Tryz.func15, Tryz.ntmps15
    go_wp2
    go_loopw [1, 5] (fun m i wr => ∃ (k d : Nat) (X : Array Obj) (r : Int), k ≤ n ∧ i = .int .i64 k ∧ m = .int .i64 r ∧ 0 ≤ r ∧ r ≤ left - n ∧ (∀ i, i < k → (faceAt l i).length ≤ 1048576) ∧ wr = more w X d) (fun _ i _ => n - (intOf i).toNat)
    case atStart => exact ⟨0, _, #[], left - n, by omega, rfl, rfl, by omega, by omega, fun i hi => by omega, more_self' w⟩
    case round =>
      obtain ⟨k, d, X0, r, hk, rfl, rfl, hr0, hr1, hss, rfl⟩ := hrel
      have H4 := Lib.hid hss
      clear hss
      by_cases hlt : k < n
      · have hk1 : (k : Int) < (n : Int) := by omega
        have hk0 : (0 : Int) ≤ (k : Int) := by omega
        have hsl := HS.out k hlt
        have HGX := Lib.hid (show (faceAt l k).length ≤ 1048576 → (∀ i, i < k + 1 → (faceAt l i).length ≤ 1048576) from fun q2 i hi => by
          by_cases hik : i = k
          · subst hik; exact q2
          · exact H4.out i (by omega))
        obtain ⟨b, o, rfl, hb, hc⟩ := HR.out (by omega)
        have c0 : w.cell? ⟨b, o + k, none⟩ = some (.slice (A k) (faceAt l k).length (K k)) := by have := hc k hlt 0 (by omega); rw [Nat.mul_one, Nat.add_zero] at this; exact this
        clear hc
        generalize faceAt l k = x at *
        by_cases hneg : r - x.length < 0
        · have HST := Lib.hid (show Int.szI r x.length = -1 by unfold Int.szI; rw [if_pos hneg])
          go_wp2_with (go_at_call 41; refine (szIntS_c _ _ _ _ _ (by omega) (by omega) hsl).mono ?_; rintro e w' ⟨rfl, rfl⟩; rw [HST.out])
          go_ret
          exact ⟨-1, rfl, (by repeat (first | exact Below.refl _ _ | refine Below.drew ?_ | refine Below.alloc ?_ (by first | exact Nat.le_refl _ | (simp; done) | (simp; omega) | omega) _ | refine Below.more ?_ (by first | exact Nat.le_refl _ | (simp; done) | (simp; omega) | omega) _ _ | refine Below.setCell ?_ (by first | exact Nat.le_refl _ | (simp; done) | (simp; omega) | omega) _ | assumption)), .inl rfl⟩
        · have HST := Lib.hid (show Int.szI r x.length = r - x.length by unfold Int.szI; rw [if_neg hneg])
          have hneg' : 0 ≤ r - x.length := by omega
          go_wp2_with (go_at_call 41; refine (szIntS_c _ _ _ _ _ (by omega) (by omega) hsl).mono ?_; rintro e w' ⟨rfl, rfl⟩; rw [HST.out])
          go_roundw
          case rel => exact ⟨k + 1, _, _, r - x.length, by omega, by go_num, rfl, by omega, by omega, HGX.out (by omega), rfl⟩
          case measure => simp [intOf]; omega
      · have hk' : k = n := by omega
        have HK := Lib.hid hk'
        clear hk'
        go_wp2
        go_ret
        have hss := H4.out
        rw [HK.out] at hss
        exact ⟨r, rfl, (by repeat (first | exact Below.refl _ _ | refine Below.drew ?_ | refine Below.alloc ?_ (by first | exact Nat.le_refl _ | (simp; done) | (simp; omega) | omega) _ | refine Below.more ?_ (by first | exact Nat.le_refl _ | (simp; done) | (simp; omega) | omega) _ _ | refine Below.setCell ?_ (by first | exact Nat.le_refl _ | (simp; done) | (simp; omega) | omega) _ | assumption)), .inr ⟨hr0, hr1, hss⟩⟩
def GivesMesh (w : World) (p : MeshD) (e : Ending) (w' : World) : Prop :=
  ∃ v, e = .returned v ∧ MeshO w' w.heap.size w'.heap.size v p ∧ Below w.heap.size w w'
set_option maxRecDepth 100000 in
theorem toMesh_c (v : Value) (p : MeshD) (w : World) (hr : MeshR w v p) (hs : MeshSz 1048576 p) :
    Calls Tryz.prog 7 #[v] w (GivesMesh w p) := by
  obtain ⟨a, c, a', c', rfl, h1, h2⟩ := hr
  obtain ⟨hs1, hs2, hs3⟩ := hs
  have H1 := Lib.hid h1
  have H2 := Lib.hid h2
  have H3 := Lib.hid hs3
  clear h1 h2 hs3
  go_enter Tryz.func7, Tryz.ntmps7
  go_wp2_with fail
  refine (toVecS_c _ _ _ _ _ (H1.out.below (by repeat (first | exact Below.refl _ _ | refine Below.drew ?_ | refine Below.alloc ?_ (by first | exact Nat.le_refl _ | (simp; done) | (simp; omega) | omega) _ | refine Below.more ?_ (by first | exact Nat.le_refl _ | (simp; done) | (simp; omega) | omega) _ _ | refine Below.setCell ?_ (by first | exact Nat.le_refl _ | (simp; done) | (simp; omega) | omega) _ | assumption))) hs1).mono ?_
  rintro e w1 ⟨a2, c2, rfl, ho, hb⟩
  have HO := Lib.hid ho
  clear ho
  obtain ⟨X, d, rfl⟩ := Below.ext hb
  clear hb
  go_wp2_with fail
  refine (toIntSS_c _ _ _ _ _ (H2.out.below (by repeat (first | exact Below.refl _ _ | refine Below.drew ?_ | refine Below.alloc ?_ (by first | exact Nat.le_refl _ | (simp; done) | (simp; omega) | omega) _ | refine Below.more ?_ (by first | exact Nat.le_refl _ | (simp; done) | (simp; omega) | omega) _ _ | refine Below.setCell ?_ (by first | exact Nat.le_refl _ | (simp; done) | (simp; omega) | omega) _ | assumption))) hs2 H3.out).mono ?_
  rintro e w1 ⟨a3, c3, rfl, ho3, hb, hz⟩
  have HO3 := Lib.hid ho3
  clear ho3
  obtain ⟨Y, d', rfl⟩ := Below.ext hb
  clear hb
  go_wp2
  refine bodyPost_ret (v := .agg #[.slice a2 p.nV c2, .slice a3 p.nF c3]) (by simp [results, Tryz.results7, go_sem]) rfl ?_
  refine ⟨_, rfl, ?_, (by repeat (first | exact Below.refl _ _ | refine Below.drew ?_ | refine Below.alloc ?_ (by first | exact Nat.le_refl _ | (simp; done) | (simp; omega) | omega) _ | refine Below.more ?_ (by first | exact Nat.le_refl _ | (simp; done) | (simp; omega) | omega) _ _ | refine Below.setCell ?_ (by first | exact Nat.le_refl _ | (simp; done) | (simp; omega) | omega) _ | assumption))⟩
  have o3 := HO3.out
  rw [more_more] at o3
  refine ⟨_, _, a2, c2, a3, c3, rfl, ?_, ?_, ?_, ((HO.out.below (more_app (Y := Y) (d' := d'))).move (by simp) (by simp)).wide (Nat.le_refl _) ?_, (o3.move (by simp) (by simp)).wide ?_⟩
  all_goals (simp at hz ⊢; try omega)
set_option maxRecDepth 100000 in
theorem eqMesh_c (v v' : Value) (p : MeshD) (w : World) (hr : MeshR w v p) (hr' : MeshR w v' p) (hs : MeshSz 1048576 p) :
    Calls Tryz.prog 9 #[v, v'] w fun e w' => e = .returned (.bool true) ∧ Below w.heap.size w w' := by
  obtain ⟨a, c, a', c', rfl, h1, h2⟩ := hr
  obtain ⟨b, d, b', d', rfl, h1', h2'⟩ := hr'
  obtain ⟨hs1, hs2, hs3⟩ := hs
  have H1 := Lib.hid h1
  have H2 := Lib.hid h2
  have H1' := Lib.hid h1'
  have H2' := Lib.hid h2'
  have H3 := Lib.hid hs3
  clear h1 h2 h1' h2' hs3
  go_enter Tryz.func9, Tryz.ntmps9
  go_wp2_with (first | (go_at_call 31; refine (eqVecS_c _ _ _ _ _ _ _ (H1.out.below (by repeat (first | exact Below.refl _ _ | refine Below.drew ?_ | refine Below.alloc ?_ (by first | exact Nat.le_refl _ | (simp; done) | (simp; omega) | omega) _ | refine Below.more ?_ (by first | exact Nat.le_refl _ | (simp; done) | (simp; omega) | omega) _ _ | refine Below.setCell ?_ (by first | exact Nat.le_refl _ | (simp; done) | (simp; omega) | omega) _ | assumption))) (H1'.out.below (by repeat (first | exact Below.refl _ _ | refine Below.drew ?_ | refine Below.alloc ?_ (by first | exact Nat.le_refl _ | (simp; done) | (simp; omega) | omega) _ | refine Below.more ?_ (by first | exact Nat.le_refl _ | (simp; done) | (simp; omega) | omega) _ _ | refine Below.setCell ?_ (by first | exact Nat.le_refl _ | (simp; done) | (simp; omega) | omega) _ | assumption))) (by omega)).mono ?_; rintro e wn ⟨rfl, hbn⟩; obtain ⟨X, nX, rfl⟩ := Below.ext hbn; clear hbn) | (go_at_call 32; refine (eqIntSS_c _ _ _ _ _ _ _ (H2.out.below (by repeat (first | exact Below.refl _ _ | refine Below.drew ?_ | refine Below.alloc ?_ (by first | exact Nat.le_refl _ | (simp; done) | (simp; omega) | omega) _ | refine Below.more ?_ (by first | exact Nat.le_refl _ | (simp; done) | (simp; omega) | omega) _ _ | refine Below.setCell ?_ (by first | exact Nat.le_refl _ | (simp; done) | (simp; omega) | omega) _ | assumption))) (H2'.out.below (by repeat (first | exact Below.refl _ _ | refine Below.drew ?_ | refine Below.alloc ?_ (by first | exact Nat.le_refl _ | (simp; done) | (simp; omega) | omega) _ | refine Below.more ?_ (by first | exact Nat.le_refl _ | (simp; done) | (simp; omega) | omega) _ _ | refine Below.setCell ?_ (by first | exact Nat.le_refl _ | (simp; done) | (simp; omega) | omega) _ | assumption))) hs2 H3.out).mono ?_; rintro e wn ⟨rfl, hbn⟩; obtain ⟨X, nX, rfl⟩ := Below.ext hbn; clear hbn))
  all_goals (go_ret; exact ⟨rfl, (by repeat (first | exact Below.refl _ _ | refine Below.drew ?_ | refine Below.alloc ?_ (by first | exact Nat.le_refl _ | (simp; done) | (simp; omega) | omega) _ | refine Below.more ?_ (by first | exact Nat.le_refl _ | (simp; done) | (simp; omega) | omega) _ _ | refine Below.setCell ?_ (by first | exact Nat.le_refl _ | (simp; done) | (simp; omega) | omega) _ | assumption))⟩)
def MeshD.Left (p : MeshD) (left : Int) (w : World) (e : Ending) (w' : World) : Prop :=
  ∃ r : Int, e = .returned (.int .i64 r) ∧ Below w.heap.size w w' ∧ (r = -1 ∨ (0 ≤ r ∧ r ≤ left ∧ MeshSz 1048576 p))
set_option maxRecDepth 100000 in
theorem szMesh_c (v : Value) (p : MeshD) (left : Int) (w : World) (hr : MeshR w v p) (h0 : 0 ≤ left) (h1 : left ≤ 1048576) (hs : MeshSz 9223372036854775807 p) :
    Calls Tryz.prog 5 #[v, .int .i64 left] w (p.Left left w) := by
  obtain ⟨a, c, a', c', rfl, hr1, hr2⟩ := hr
  obtain ⟨hs1, hs2, hs3⟩ := hs
  have H2 := Lib.hid hr2
  have H3 := Lib.hid hs3
  clear hr1 hr2 hs3
  by_cases hneg : left - p.nV < 0
  · have HST := Lib.hid (show Vec.szI left p.nV = -1 by unfold Vec.szI; rw [if_pos hneg])
    go_enter Tryz.func5, Tryz.ntmps5
    go_wp2_with fail
    refine (szVecS_c _ _ _ left _ h0 h1 hs1).mono ?_
    rintro e w' ⟨rfl, rfl⟩
    rw [HST.out]
    go_wp2
    go_ret
    exact ⟨-1, rfl, (by repeat (first | exact Below.refl _ _ | refine Below.drew ?_ | refine Below.alloc ?_ (by first | exact Nat.le_refl _ | (simp; done) | (simp; omega) | omega) _ | refine Below.more ?_ (by first | exact Nat.le_refl _ | (simp; done) | (simp; omega) | omega) _ _ | refine Below.setCell ?_ (by first | exact Nat.le_refl _ | (simp; done) | (simp; omega) | omega) _ | assumption)), .inl rfl⟩
  · have HST := Lib.hid (show Vec.szI left p.nV = left - p.nV by unfold Vec.szI; rw [if_neg hneg])
    have hpos : 0 ≤ left - p.nV := by omega
    go_enter Tryz.func5, Tryz.ntmps5
    go_wp2_with fail
    refine (szVecS_c _ _ _ left _ h0 h1 hs1).mono ?_
    rintro e w' ⟨rfl, rfl⟩
    rw [HST.out]
    go_wp2_with fail
    refine (szIntSS_c _ _ _ _ (left - p.nV) _ (H2.out.below (by repeat (first | exact Below.refl _ _ | refine Below.drew ?_ | refine Below.alloc ?_ (by first | exact Nat.le_refl _ | (simp; done) | (simp; omega) | omega) _ | refine Below.more ?_ (by first | exact Nat.le_refl _ | (simp; done) | (simp; omega) | omega) _ _ | refine Below.setCell ?_ (by first | exact Nat.le_refl _ | (simp; done) | (simp; omega) | omega) _ | assumption))) hpos (by omega) hs2 H3.out).mono ?_
    rintro e wn ⟨r', rfl, hbn, hr⟩
    obtain ⟨Y, nY, rfl⟩ := Below.ext hbn
    clear hbn
    rcases hr with rfl | ⟨t0, t1, t2⟩
    · go_wp2
      go_ret
      exact ⟨-1, rfl, (by repeat (first | exact Below.refl _ _ | refine Below.drew ?_ | refine Below.alloc ?_ (by first | exact Nat.le_refl _ | (simp; done) | (simp; omega) | omega) _ | refine Below.more ?_ (by first | exact Nat.le_refl _ | (simp; done) | (simp; omega) | omega) _ _ | refine Below.setCell ?_ (by first | exact Nat.le_refl _ | (simp; done) | (simp; omega) | omega) _ | assumption)), .inl rfl⟩
    · have HT := Lib.hid t2
      clear t2
      go_wp2
      go_ret
      exact ⟨r', rfl, (by repeat (first | exact Below.refl _ _ | refine Below.drew ?_ | refine Below.alloc ?_ (by first | exact Nat.le_refl _ | (simp; done) | (simp; omega) | omega) _ | refine Below.more ?_ (by first | exact Nat.le_refl _ | (simp; done) | (simp; omega) | omega) _ _ | refine Below.setCell ?_ (by first | exact Nat.le_refl _ | (simp; done) | (simp; omega) | omega) _ | assumption)), .inr ⟨t0, by omega, by omega, by omega, HT.out⟩⟩
set_option maxRecDepth 100000 in
theorem open_Mesh {H : Type} {enc : TypeId × Value → H} {W : World} {v : Value} {d : DataW H} {p : List MemPlace} {base : Nat} (k : Value.okWide Tryz.prog W .any base 25 v) (h : DataW.Trod enc Tryz.prog W 0 (fun _ => true) true 25 v d p) :
    ∃ q : MeshD, Hid (MeshR W v q) ∧ MeshSz 9223372036854775807 q := by
  obtain ⟨cs, rfl, hl, _⟩ := open_flat [22, 23] Tryz.underlying25 (by kernel_rfl) (by kernel_rfl) k
  match cs, hl with
  | [u0, u1], _ =>
    obtain ⟨fuel, hf⟩ := h
    obtain ⟨v0, m0, y0, e0, ht0⟩ := trod_leaf 4 _ _ _ _ 0 22 hf (by decide +kernel)
    obtain ⟨v1, m1, y1, e1, ht1⟩ := trod_leaf 4 _ _ _ _ 1 23 hf (by decide +kernel)
    obtain rfl : u0 = v0 := by simpa [Value.cells] using e0
    obtain rfl : u1 = v1 := by simpa [Value.cells] using e1
    obtain ⟨a, n, cap, rfl, hn, hx⟩ := trod_recs (e := 76) (s := 3) (d := 8) (ts := [3, 3, 3]) Tryz.underlying22 (by kernel_rfl) (by decide) (by decide +kernel) rfl ht0
    obtain ⟨a', n', cap', rfl, hn', hx'⟩ := trod_recs (e := 45) (s := 1) (d := 8) (ts := [45]) Tryz.underlying23 (by kernel_rfl) (by decide) (by decide +kernel) rfl ht1
    unfold maxLen at hn hn'
    have hV : ∃ l : List VecD, l.length = n ∧ Sl W a 3 n (VecD.at l) := by
      by_cases h0 : n = 0
      · subst h0; exact ⟨[], rfl, Sl.none⟩
      · obtain ⟨b, o, rfl, hb, hc⟩ := hx (by omega)
        have get : ∀ i, i < n → ((List.range n).map fun i => (⟨intC (W.cell? ⟨b, o + i * 3 + 0, none⟩), intC (W.cell? ⟨b, o + i * 3 + 1, none⟩), intC (W.cell? ⟨b, o + i * 3 + 2, none⟩)⟩ : VecD)).getD i default = ⟨intC (W.cell? ⟨b, o + i * 3 + 0, none⟩), intC (W.cell? ⟨b, o + i * 3 + 1, none⟩), intC (W.cell? ⟨b, o + i * 3 + 2, none⟩)⟩ := by
          intro i hi
          rw [List.getD_eq_getElem?_getD, List.getElem?_map, List.getElem?_range hi]; rfl
        refine ⟨(List.range n).map fun i => (⟨intC (W.cell? ⟨b, o + i * 3 + 0, none⟩), intC (W.cell? ⟨b, o + i * 3 + 1, none⟩), intC (W.cell? ⟨b, o + i * 3 + 2, none⟩)⟩ : VecD), by simp, fun _ => ⟨b, o, rfl, hb, fun i hi j hj => ?_⟩⟩
        unfold VecD.at
        rw [get i hi]
        obtain ⟨u, m, y, hu, ht⟩ := hc i hi j hj
        rw [hu]
        obtain rfl | rfl | rfl : j = 0 ∨ j = 1 ∨ j = 2 := by omega
        all_goals
          obtain ⟨z, e1, _, _⟩ := DataW.trod_int Tryz.underlying3 ht
          obtain rfl : u = .int .i64 z := by simpa using e1
          simp only [hu, intC]; rfl
    have hF : ∃ l : List (List Int), l.length = n' ∧ FsR W a' n' l ∧ ∀ i, i < n' → (faceAt l i).length ≤ 9223372036854775807 := by
      by_cases h0 : n' = 0
      · subst h0
        exact ⟨[], rfl, ⟨fun _ => none, fun _ => 0, Sl.none, fun i hi => absurd hi (Nat.not_lt_zero i), fun i hi => absurd hi (Nat.not_lt_zero i)⟩, fun i hi => absurd hi (Nat.not_lt_zero i)⟩
      · obtain ⟨b, o, rfl, hb, hc⟩ := hx' (by omega)
        have one : ∀ i, i < n' → ∃ (x : List Int) (aa : Option Addr) (cc : Nat), W.cell? ⟨b, o + i * 1 + 0, none⟩ = some (.slice aa x.length cc) ∧ Sl W aa 1 x.length (intAt x) ∧ x.length ≤ cc ∧ x.length ≤ 9223372036854775807 := by
          intro i hi
          obtain ⟨c3, _, _, hc3, k3⟩ := hc i hi 0 (by decide)
          obtain ⟨a3, n3, cap3, rfl, hnc, hn3, hx3⟩ := trod_recs_cap (e := 3) (s := 1) (d := 8) (ts := [3]) Tryz.underlying45 (by kernel_rfl) (by decide) (by decide +kernel) rfl k3
          unfold maxLen at hn3
          have hl : ∃ l : List Int, l.length = n3 ∧ Sl W a3 1 n3 (intAt l) := by
            by_cases h3 : n3 = 0
            · subst h3; exact ⟨[], rfl, Sl.none⟩
            · obtain ⟨b3, o3, rfl, hb3, hc3'⟩ := hx3 (by omega)
              refine ⟨(List.range n3).map fun i => intC (W.cell? ⟨b3, o3 + i * 1 + 0, none⟩), by simp, fun _ => ⟨b3, o3, rfl, hb3, fun i hi j hj => ?_⟩⟩
              obtain ⟨u, _, _, hu, ku⟩ := hc3' i hi j hj
              obtain rfl : j = 0 := by omega
              obtain ⟨z, q, _, _⟩ := DataW.trod_int Tryz.underlying3 ku
              obtain rfl : u = .int .i64 z := by simpa using q
              have g : ((List.range n3).map fun i => intC (W.cell? ⟨b3, o3 + i * 1 + 0, none⟩)).getD i 0 = intC (W.cell? ⟨b3, o3 + i * 1 + 0, none⟩) := by
                rw [List.getD_eq_getElem?_getD, List.getElem?_map, List.getElem?_range hi]; rfl
              unfold intAt
              rw [g, hu]; rfl
          obtain ⟨l, hl1, hl2⟩ := hl
          subst hl1
          exact ⟨l, a3, cap3, hc3, hl2, hnc, hn3⟩
        have H : ∀ i, ∃ y : List Int × Option Addr × Nat, i < n' → W.cell? ⟨b, o + i * 1 + 0, none⟩ = some (.slice y.2.1 y.1.length y.2.2) ∧ Sl W y.2.1 1 y.1.length (intAt y.1) ∧ y.1.length ≤ y.2.2 ∧ y.1.length ≤ 9223372036854775807 := by
          intro i
          by_cases hi : i < n'
          · obtain ⟨x, aa, cc, h1⟩ := one i hi
            exact ⟨(x, aa, cc), fun _ => h1⟩
          · exact ⟨([], none, 0), fun h => absurd h hi⟩
        have ch : ∃ (X : Nat → List Int) (A : Nat → Option Addr) (K : Nat → Nat), ∀ i, i < n' → W.cell? ⟨b, o + i * 1 + 0, none⟩ = some (.slice (A i) (X i).length (K i)) ∧ Sl W (A i) 1 (X i).length (intAt (X i)) ∧ (X i).length ≤ K i ∧ (X i).length ≤ 9223372036854775807 :=
          ⟨fun i => (Classical.choose (H i)).1, fun i => (Classical.choose (H i)).2.1, fun i => (Classical.choose (H i)).2.2, fun i hi => Classical.choose_spec (H i) hi⟩
        obtain ⟨X, A, K, hX⟩ := ch
        have get : ∀ i, i < n' → faceAt ((List.range n').map X) i = X i := by
          intro i hi
          unfold faceAt
          rw [List.getD_eq_getElem?_getD, List.getElem?_map, List.getElem?_range hi]; rfl
        refine ⟨(List.range n').map X, by simp, ⟨A, K, fun _ => ⟨b, o, rfl, hb, fun i hi j hj => ?_⟩, fun i hi => ?_, fun i hi => ?_⟩, fun i hi => ?_⟩
        · obtain rfl : j = 0 := by omega
          unfold facesAt; rw [get i hi]; exact (hX i hi).1
        · rw [get i hi]; exact (hX i hi).2.1
        · rw [get i hi]; exact (hX i hi).2.2.1
        · rw [get i hi]; exact (hX i hi).2.2.2
    obtain ⟨lV, hV1, hV2⟩ := hV
    obtain ⟨lF, hF1, hF2, hF3⟩ := hF
    exact ⟨⟨lV, lF, n, n', hV1, hF1⟩, Lib.hid ⟨a, cap, a', cap', rfl, hV2, hF2⟩, hn, hn', hF3⟩
end Go.Proofs.YtpfmcobkfofbjaaGreat
