/- Contracts of what the laws do with slices of Int. -/
import Derived.Test.YtpfmcobkfofbjaaGreatTrod
import Derived.Test.YtpfmcobkfofbjaaGreatRecs
namespace Go.Proofs.YtpfmcobkfofbjaaGreat
open Go.RowKit
set_option linter.unusedVariables false
def intAt (l : List Int) (i : Nat) : List Value := [.int .i64 (l.getD i 0)]
theorem intAt_len (l : List Int) (i : Nat) : (intAt l i).length = 1 := rfl
theorem info_Int : (Tryz.prog.info? 3).map (fun i => (i.zero, i.size, i.bytes)) = some (some (.int .i64 0), 1, 8) := by kernel_rfl
set_option maxRecDepth 100000 in
theorem make_Int (n : Nat) (hn : n ≤ 1048576) (w : World) : ∃ arr : List Value, arr.length = n * 1 ∧ (Instr.makeSlice 45 (.int .i64 (n : Int)) (.int .i64 (n : Int))).run Tryz.prog w = .ok (.slice (some ⟨w.heap.size, 0, none⟩) n n) (w.alloc (.cells ⟨arr⟩ 3)) := by
  obtain ⟨i0, hi, hz0, hz1, hz2⟩ := info_parts info_Int
  have h := run_make w 45 3 i0 _ Tryz.underlying45 hi hz0 .i64 .i64 (n : Int) (n : Int) (by omega) (by omega) (by rw [hz2]; omega) (by omega)
  rw [h]
  simp only [Int.toNat_natCast, hz1]
  refine ⟨(madeCells _ (n * 1)).toList, ?_, rfl⟩
  rw [Array.length_toList, size_madeCells]
set_option maxRecDepth 100000 in
set_option maxHeartbeats 1000000 in
theorem toIntS_k (a : Option Addr) (cap : Nat) (l : List Int) (n : Nat) (w : World) (hr : Sl w a 1 n (intAt l)) (hn : n ≤ 1048576) :
    Calls Tryz.prog 56 #[.slice a n cap] w (GivesC w 1 n (intAt l)) := by
  obtain ⟨arr0, ha0, hmk⟩ := make_Int n hn w
  have HR := Lib.hid hr
  have HA := Lib.hid ha0
  clear hr ha0
  go_enter Tryz.func56, Tryz.ntmps56
  go_wp2
  go_loopw [4] (fun i wr => ∃ (k : Nat) (arr : List Value) (X : Array Obj) (d : Nat), k ≤ n ∧ i = .int .i64 k ∧ Filled arr 1 n k (intAt l) ∧ wr = more (w.alloc (.cells ⟨arr⟩ 3)) X d) (fun i _ => n - (intOf i).toNat)
  case atStart => exact ⟨0, arr0, #[], _, by omega, rfl, .start HA.out, more_self' _⟩
  case round =>
    obtain ⟨k, arr, X, d, hk, rfl, hf, rfl⟩ := hrel
    have HF := Lib.hid hf
    clear hf
    by_cases hlt : k < n
    · have hk1 : (k : Int) < (n : Int) := by omega
      obtain ⟨b, o, rfl, hb, hc⟩ := HR.out (by omega)
      have HC := Lib.hid hc
      clear hc
      have hrow := row_lt (s := 1) (Nat.lt_succ_self k) (show k + 1 ≤ n from hlt)
      have g0 : k < arr.length := by rw [HF.out.1]; omega
      have hat : intAt l k = [.int .i64 (l.getD k 0)] := rfl
      have c0 : w.cell? ⟨b, o + k, none⟩ = some (.int .i64 (l.getD k 0)) := by have := HC.out k hlt 0 (by omega); rw [Nat.mul_one, Nat.add_zero] at this; exact this
      generalize l.getD k 0 = x at *
      have HT := Lib.hid hat
      clear hat hrow
      go_wp2
      go_roundw
      case rel => exact ⟨k + 1, setRow arr (k * 1) [.int .i64 x], X, d, by omega, by go_num, HF.out.next hlt rfl (fun j _ => by rw [HT.out]), by simp [setRow]⟩
      case measure => simp [intOf]; omega
    · have hk' : k = n := by omega
      have HK := Lib.hid hk'
      clear hk'
      go_wp2
      go_ret
      have hff := HF.out
      rw [HK.out] at hff
      exact ⟨_, _, rfl, ow_new (e := 3) (by rw [heap_more _ (by simp), heap_alloc_new]) (Nat.le_refl _) (by simp; omega) (by rw [hff.1]; exact Nat.le_refl _) hff.2, (by repeat (first | exact Below.refl _ _ | refine Below.drew ?_ | refine Below.alloc ?_ (by first | exact Nat.le_refl _ | (simp; done) | (simp; omega) | omega) _ | refine Below.more ?_ (by first | exact Nat.le_refl _ | (simp; done) | (simp; omega) | omega) _ _ | refine Below.setCell ?_ (by first | exact Nat.le_refl _ | (simp; done) | (simp; omega) | omega) _ | assumption)), Nat.le_refl _⟩
theorem toIntS_c (a : Option Addr) (cap : Nat) (l : List Int) (n : Nat) (w : World) (hr : Sl w a 1 n (intAt l)) (hn : n ≤ 1048576) :
    Calls Tryz.prog 56 #[.slice a n cap] w (Gives w 1 n (intAt l)) := (toIntS_k a cap l n w hr hn).mono fun _ _ h => h.gives
set_option maxRecDepth 100000 in
set_option maxHeartbeats 1000000 in
theorem eqIntS_c (a a' : Option Addr) (cap cap' : Nat) (l : List Int) (n : Nat) (w : World) (hr : Sl w a 1 n (intAt l)) (hr' : Sl w a' 1 n (intAt l)) (hn : n ≤ 9223372036854775807) :
    Calls Tryz.prog 72 #[.slice a n cap, .slice a' n cap'] w fun e w' => e = .returned (.bool true) ∧ Below w.heap.size w w' := by
  have HR := Lib.hid hr
  have HR' := Lib.hid hr'
  clear hr hr'
  go_enter Tryz.func72, Tryz.ntmps72
  go_wp2
  go_loopw [5] (fun i wr => ∃ (k d : Nat) (X : Array Obj), k ≤ n ∧ i = .int .i64 k ∧ wr = more w X d) (fun i _ => n - (intOf i).toNat)
  case atStart => exact ⟨0, _, #[], by omega, rfl, more_self' w⟩
  case round =>
    obtain ⟨k, d, X0, hk, rfl, rfl⟩ := hrel
    by_cases hlt : k < n
    · have hk1 : (k : Int) < (n : Int) := by omega
      have hk0 : (0 : Int) ≤ (k : Int) := by omega
      obtain ⟨b, o, rfl, hb, hc⟩ := HR.out (by omega)
      have HC := Lib.hid hc
      clear hc
      obtain ⟨b', o', rfl, hb', hc'⟩ := HR'.out (by omega)
      have HC2 := Lib.hid hc'
      clear hc'
      have c0 : w.cell? ⟨b, o + k, none⟩ = some (.int .i64 (l.getD k 0)) := by have := HC.out k hlt 0 (by omega); rw [Nat.mul_one, Nat.add_zero] at this; exact this
      have e0 : w.cell? ⟨b', o' + k, none⟩ = some (.int .i64 (l.getD k 0)) := by have := HC2.out k hlt 0 (by omega); rw [Nat.mul_one, Nat.add_zero] at this; exact this
      generalize l.getD k 0 = x at *
      go_wp2
      (first | refine region_q2 (by kernel_rfl) (by kernel_rfl) ?_ | refine region_q (by kernel_rfl) (by kernel_rfl) ?_)
      repeat (quiet_step (fail))
      (refine wpQuiet_nil ?_; intro X nX)
      go_wp2
      go_roundw
      case rel => exact ⟨k + 1, _, _, by omega, by go_num, rfl⟩
      case measure => simp [intOf]; omega
    · go_wp2
      go_ret
      exact ⟨rfl, (by repeat (first | exact Below.refl _ _ | refine Below.drew ?_ | refine Below.alloc ?_ (by first | exact Nat.le_refl _ | (simp; done) | (simp; omega) | omega) _ | refine Below.more ?_ (by first | exact Nat.le_refl _ | (simp; done) | (simp; omega) | omega) _ _ | refine Below.setCell ?_ (by first | exact Nat.le_refl _ | (simp; done) | (simp; omega) | omega) _ | assumption))⟩
/-- What is left behind a slice's length. -/
def Int.szI (left : Int) (n : Nat) : Int := if left - n < 0 then -1 else left - n
theorem szIntS_c (a : Option Addr) (cap n : Nat) (left : Int) (w : World) (h0 : 0 ≤ left) (h1 : left ≤ 1048576) (hn : n ≤ 9223372036854775807) :
    Calls Tryz.prog 41 #[.slice a n cap, .int .i64 left] w fun e w' => e = .returned (.int .i64 (Int.szI left n)) ∧ w = w' := by
  by_cases hlt : left - n < 0
  · have hs : Int.szI left n = -1 := by unfold Int.szI; rw [if_pos hlt]
    have HS := Lib.hid hs
    clear hs
    go_enter Tryz.func41, Tryz.ntmps41
    go_wp2
    go_ret
    exact ⟨ret_int HS.out.symm, rfl⟩
  · have hs : Int.szI left n = left - n := by unfold Int.szI; rw [if_neg hlt]
    have HS := Lib.hid hs
    clear hs
    go_enter Tryz.func41, Tryz.ntmps41
    go_wp2
    go_ret
    exact ⟨ret_int HS.out.symm, rfl⟩
/-- The cells of an element that bears the marks. -/
def intMk (l : List Int) (k0 i : Nat) : List Value := [.int .i64 ((k0 : Int) + (i : Int))]
theorem intMk_len (l : List Int) (k0 i : Nat) : (intMk l k0 i).length = 1 := rfl
/-- The first m elements bear the marks, the others what they had. -/
def Int.Half (l : List Int) (k0 n m : Nat) (arr : List Value) : Prop := arr.length ≥ n * 1 ∧ ∀ i, i < n → ∀ j, j < 1 → arr[i * 1 + j]? = (if i < m then intMk l k0 i else intAt l i)[j]?
theorem Int.Half.next {l : List Int} {k0 n m : Nat} {arr : List Value} (h : Int.Half l k0 n m arr) (hm : m < n) : Int.Half l k0 n (m + 1) ((List.set arr (m) (.int .i64 ((k0 : Int) + (m : Int))))) := by
  have hrow := row_lt (s := 1) (Nat.lt_succ_self m) (show m + 1 ≤ n from hm)
  have hlen := h.1
  refine ⟨by simpa using h.1, fun i hi j hj => ?_⟩
  by_cases him : i = m
  · subst him
    rw [if_pos (by omega)]
    have h0 := h.2 i hi
    rw [if_neg (Nat.lt_irrefl i)] at h0
    obtain rfl : j = 0 := by omega
    · (try simp only [Nat.mul_one]); (try simp only [Nat.add_zero])
      rw [List.getElem?_set_self (by first | omega | (simp only [List.length_set]; omega))]; rfl
  · have e : (if i < m + 1 then intMk l k0 i else intAt l i) = (if i < m then intMk l k0 i else intAt l i) := by
      by_cases h1 : i < m
      · rw [if_pos h1, if_pos (by omega)]
      · rw [if_neg h1, if_neg (by omega)]
    rw [e, ← h.2 i hi j hj]
    have hne : i * 1 + 1 ≤ m * 1 ∨ m * 1 + 1 ≤ i * 1 := by
      rcases Nat.lt_or_gt_of_ne him with q | q
      · exact .inl (by have := Nat.mul_le_mul_right 1 (show i + 1 ≤ m by omega); omega)
      · exact .inr (by have := Nat.mul_le_mul_right 1 (show m + 1 ≤ i by omega); omega)
    rw [List.getElem?_set_ne (by omega)]
set_option maxRecDepth 100000 in
set_option maxHeartbeats 1000000 in
theorem markIntS_c (a : Option Addr) (cap : Nat) (l : List Int) (n k0 lo hi : Nat) (w : World) (hown : Ow w lo hi a 1 n (intAt l)) (hn : n ≤ 100000000) (hk0 : k0 ≤ 100000000000000) :
    Calls Tryz.prog 73 #[.slice a n cap, .int .i64 (k0 : Int)] w fun e w' => e = .returned (.int .i64 ((k0 + n : Nat) : Int)) ∧ Ow w' lo hi a 1 n (intMk l k0) ∧ Chg lo hi w w' := by
  by_cases h00 : n = 0
  · subst h00
    clear hown
    go_enter Tryz.func73, Tryz.ntmps73
    go_wp2
    go_rounds 1
    go_ret
    exact ⟨ret_int (by simp), Ow.none, Chg.refl _ _ _⟩
  · obtain ⟨g, arr0, e, rfl, hlo, hhi, hg, hl, hx⟩ := hown (by omega)
    have hgs := (Array.getElem?_eq_some_iff.1 hg).1
    obtain ⟨w0, rfl⟩ : ∃ w0, putB w0 g arr0 e = w := ⟨w, putB_self hg⟩
    simp only [size_putB] at hgs
    have HX := Lib.hid hx
    have HO := Lib.hid hown
    clear hown hg hx
    have HL := Lib.hid hl
    clear hl
    go_enter Tryz.func73, Tryz.ntmps73
    go_wp2
    go_loopw [1, 5] (fun k i wr => ∃ (m : Nat) (arr : List Value) (X : Array Obj) (d : Nat), m ≤ n ∧ i = .int .i64 m ∧ k = .int .i64 ((k0 + m : Nat) : Int) ∧ Int.Half l k0 n m arr ∧ wr = more (putB w0 g arr e) X d) (fun _ i _ => n - (intOf i).toNat)
    case atStart => exact ⟨0, arr0, #[], _, by omega, rfl, by simp, ⟨HL.out, fun i hi j hj => by rw [if_neg (by omega)]; exact HX.out i hi j hj⟩, more_self' _⟩
    case round =>
      obtain ⟨m, arr, X, d, hm, rfl, rfl, hf, rfl⟩ := hrel
      have HF := Lib.hid hf
      clear hf
      by_cases hlt : m < n
      · have hk1 : (m : Int) < (n : Int) := by omega
        have hk0' : (0 : Int) ≤ (m : Int) := by omega
        have hrow := row_lt (s := 1) (Nat.lt_succ_self m) (show m + 1 ≤ n from hlt)
        have harr := HF.out.1
        have g0 : m < arr.length := by omega
        clear hrow harr
        go_wp2
        refine ⟨⟨m + 1, (List.set arr (m) (.int .i64 ((k0 : Int) + (m : Int)))), _, _, by omega, by go_num, by go_num, HF.out.next hlt, rfl⟩, by simp only [intOf]; omega⟩
      · have hk' : m = n := by omega
        have HK := Lib.hid hk'
        clear hk'
        go_wp2
        go_ret
        have hmm := HF.out
        rw [HK.out] at hmm
        refine ⟨ret_int (by rw [HK.out]), ow_new (e := e) (arr := arr) (by rw [heap_more _ (by simpa using hgs), heap_putB hgs]) hlo hhi hmm.1 (fun i hi j hj => by rw [hmm.2 i hi j hj, if_pos hi]), ?_⟩
        refine ⟨rfl, rfl, rfl, by simp, fun k hk ho => ?_⟩
        have hk2 : k < w0.heap.size := by simpa using hk
        rw [heap_more k (by simpa using hk2), heap_putB_other k (by omega), heap_putB_other k (by omega)]
set_option maxRecDepth 100000 in
set_option maxHeartbeats 1000000 in
theorem heldIntS_c (a : Option Addr) (cap : Nat) (l : List Int) (n k0 : Nat) (w : World) (hr : Sl w a 1 n (intMk l k0)) (hn : n ≤ 100000000) (hk0 : k0 ≤ 100000000000000) :
    Calls Tryz.prog 74 #[.slice a n cap, .int .i64 (k0 : Int)] w fun e w' => e = .returned (.int .i64 ((k0 + n : Nat) : Int)) ∧ Below w.heap.size w w' := by
  have HR := Lib.hid hr
  clear hr
  go_enter Tryz.func74, Tryz.ntmps74
  go_wp2
  go_loopw [1, 5] (fun k i wr => ∃ (m : Nat) (X : Array Obj) (d : Nat), m ≤ n ∧ i = .int .i64 m ∧ k = .int .i64 ((k0 + m : Nat) : Int) ∧ wr = more w X d) (fun _ i _ => n - (intOf i).toNat)
  case atStart => exact ⟨0, #[], _, by omega, rfl, by simp, more_self' _⟩
  case round =>
    obtain ⟨m, X, d, hm, rfl, rfl, rfl⟩ := hrel
    by_cases hlt : m < n
    · have hk1 : (m : Int) < (n : Int) := by omega
      have hk0' : (0 : Int) ≤ (m : Int) := by omega
      obtain ⟨b, o, rfl, hb, hc⟩ := HR.out (by omega)
      have HC := Lib.hid hc
      clear hc
      have c0 : w.cell? ⟨b, o + m, none⟩ = some (.int .i64 ((k0 : Int) + (m : Int))) := by have := HC.out m hlt 0 (by omega); rw [Nat.mul_one, Nat.add_zero] at this; exact this
      go_wp2
      go_roundw
      case rel => exact ⟨m + 1, _, _, by omega, by go_num, by go_num, rfl⟩
      case measure => simp [intOf]; omega
    · have hk' : m = n := by omega
      have HK := Lib.hid hk'
      clear hk'
      go_wp2
      go_ret
      exact ⟨ret_int (by rw [HK.out]), (by repeat (first | exact Below.refl _ _ | refine Below.drew ?_ | refine Below.alloc ?_ (by first | exact Nat.le_refl _ | (simp; done) | (simp; omega) | omega) _ | refine Below.more ?_ (by first | exact Nat.le_refl _ | (simp; done) | (simp; omega) | omega) _ _ | refine Below.setCell ?_ (by first | exact Nat.le_refl _ | (simp; done) | (simp; omega) | omega) _ | assumption))⟩
set_option maxRecDepth 100000 in
theorem open_IntS {H : Type} {enc : TypeId × Value → H} {W : World} {v : Value} {d : DataW H} {p : List MemPlace} {base : Nat} (k : Value.okWide Tryz.prog W .any base 45 v) (h : DataW.Trod enc Tryz.prog W 0 (fun _ => true) true 45 v d p) :
    ∃ (a : Option Addr) (cap : Nat) (l : List Int) (n : Nat), v = .slice a n cap ∧ Hid (l.length = n) ∧ Hid (Sl W a 1 n (intAt l)) ∧ n ≤ 9223372036854775807 := by
  obtain ⟨a0, n0, cap0, rfl⟩ := WideShapes.okWide_slice Tryz.underlying45 k
  obtain ⟨fuel, hf⟩ := h
  obtain ⟨a, n, cap, e, hn, hx⟩ := trod_recs (e := 3) (s := 1) (d := 8) (ts := [3]) Tryz.underlying45 (by kernel_rfl) (by decide) (by decide +kernel) rfl (v := .slice a0 n0 cap0) (by simpa [Value.cells] using hf)
  obtain ⟨rfl, rfl, rfl⟩ : a = a0 ∧ n = n0 ∧ cap = cap0 := by simp at e; exact ⟨e.1.symm, e.2.1.symm, e.2.2.symm⟩
  unfold maxLen at hn
  by_cases h0 : n = 0
  · subst h0
    exact ⟨_, _, [], 0, rfl, Lib.hid rfl, Lib.hid Sl.none, by omega⟩
  · obtain ⟨b, o, rfl, hb, hc⟩ := hx (by omega)
    have get : ∀ i, i < n → ((List.range n).map fun i => (intC (W.cell? ⟨b, o + i * 1 + 0, none⟩))).getD i 0 = (intC (W.cell? ⟨b, o + i * 1 + 0, none⟩)) := by
      intro i hi
      rw [List.getD_eq_getElem?_getD, List.getElem?_map, List.getElem?_range hi]; rfl
    refine ⟨_, _, (List.range n).map fun i => (intC (W.cell? ⟨b, o + i * 1 + 0, none⟩)), n, rfl, Lib.hid (by simp), Lib.hid (fun _ => ⟨b, o, rfl, hb, fun i hi j hj => ?_⟩), hn⟩
    · unfold intAt
      rw [get i hi]
      obtain ⟨u, m, y, hu, ht⟩ := hc i hi j hj
      rw [hu]
      obtain rfl : j = 0 := by omega
      · obtain ⟨z, e1, _, _⟩ := DataW.trod_int Tryz.underlying3 ht; obtain rfl : u = .int .i64 z := by simpa using e1
        simp only [hu, intC]; rfl

end Go.Proofs.YtpfmcobkfofbjaaGreat
