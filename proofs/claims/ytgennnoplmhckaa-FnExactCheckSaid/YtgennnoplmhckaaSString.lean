/- Contracts of what the laws do with slices of String. -/
import Derived.Test.YtgennnoplmhckaaTrod
import Derived.Test.YtgennnoplmhckaaRecs
import Derived.Test.YtgennnoplmhckaaMarkText
namespace Go.Proofs.Ytgennnoplmhckaa
open Go.RowKit
def stringAt (l : List ByteArray) (i : Nat) : List Value := [.string (l.getD i ByteArray.empty)]
theorem stringAt_len (l : List ByteArray) (i : Nat) : (stringAt l i).length = 1 := rfl
theorem info_String : (Try.prog.info? 9).map (fun i => (i.zero, i.size, i.bytes)) = some (some (.string ByteArray.empty), 1, 16) := by kernel_rfl
set_option maxRecDepth 100000 in
set_option maxHeartbeats 1000000 in
theorem eqStringS_c (a a' : Option Addr) (cap cap' : Nat) (l : List ByteArray) (n : Nat) (w : World) (hr : Sl w a 1 n (stringAt l)) (hr' : Sl w a' 1 n (stringAt l)) (hn : n ≤ 9223372036854775807) :
    Calls Try.prog 15 #[.slice a n cap, .slice a' n cap'] w fun e w' => e = .returned (.bool true) ∧ Below w.heap.size w w' := by
  have HR := Lib.hid hr
  have HR' := Lib.hid hr'
  clear hr hr'
  go_enter Try.func15, Try.ntmps15
  go_wp2
  go_loopw [5] (fun i wr => ∃ (k d : Nat) (X : Array Obj), k ≤ n ∧ i = .int .i64 k ∧ wr = more w X d) (fun i _ => n - (intOf i).toNat)
  case atStart => exact ⟨0, _, #[], by omega, rfl, more_self' w⟩
  case round =>
    obtain ⟨k, d, X0, hk, rfl, rfl⟩ := hrel
    by_cases hlt : k < n
    · have hk1 : (k : Int) < (n : Int) := by omega
      have hk0 : (0 : Int) ≤ (k : Int) := by omega
      obtain ⟨b, o, rfl, hb, hc⟩ := HR.out (by omega)
      have HC := Lib.hid hc
      clear hc
      obtain ⟨b', o', rfl, hb', hc'⟩ := HR'.out (by omega)
      have HC2 := Lib.hid hc'
      clear hc'
      have c0 : w.cell? ⟨b, o + k, none⟩ = some (.string (l.getD k ByteArray.empty)) := by have := HC.out k hlt 0 (by omega); rw [Nat.mul_one, Nat.add_zero] at this; exact this
      have e0 : w.cell? ⟨b', o' + k, none⟩ = some (.string (l.getD k ByteArray.empty)) := by have := HC2.out k hlt 0 (by omega); rw [Nat.mul_one, Nat.add_zero] at this; exact this
      generalize l.getD k ByteArray.empty = x at *
      go_wp2
      (first | refine region_q2 (by kernel_rfl) (by kernel_rfl) ?_ | refine region_q (by kernel_rfl) (by kernel_rfl) ?_)
      repeat (quiet_step (fail))
      (refine wpQuiet_nil ?_; intro X nX)
      go_wp2
      go_roundw
      case rel => exact ⟨k + 1, _, _, by omega, by go_num, rfl⟩
      case measure => simp [intOf]; omega
    · go_wp2
      go_ret
      exact ⟨rfl, (by repeat (first | exact Below.refl _ _ | refine Below.drew ?_ | refine Below.alloc ?_ (by first | exact Nat.le_refl _ | (simp; done) | (simp; omega) | omega) _ | refine Below.more ?_ (by first | exact Nat.le_refl _ | (simp; done) | (simp; omega) | omega) _ _ | refine Below.setCell ?_ (by first | exact Nat.le_refl _ | (simp; done) | (simp; omega) | omega) _ | assumption))⟩
/-- The cells of an element that bears the marks. -/
def stringMk (l : List ByteArray) (k0 i : Nat) : List Value := [.string (mtext (k0 + i + 0))]
theorem stringMk_len (l : List ByteArray) (k0 i : Nat) : (stringMk l k0 i).length = 1 := rfl
theorem markText_iString (x : Int) (m : Nat) (e : x = (m : Int)) (h : m ≤ 1000000000000000) (w : World) : Calls Try.prog 44 #[.int .i64 x] w fun e w' => e = .returned (.string (mtext m)) ∧ Below w.heap.size w w' := by
  subst e; exact markText_c m h w
/-- The first m elements bear the marks, the others what they had. -/
def String.Half (l : List ByteArray) (k0 n m : Nat) (arr : List Value) : Prop := arr.length ≥ n * 1 ∧ ∀ i, i < n → ∀ j, j < 1 → arr[i * 1 + j]? = (if i < m then stringMk l k0 i else stringAt l i)[j]?
theorem String.Half.next {l : List ByteArray} {k0 n m : Nat} {arr : List Value} (h : String.Half l k0 n m arr) (hm : m < n) : String.Half l k0 n (m + 1) ((List.set arr (m) (.string (mtext (k0 + m + 0))))) := by
  have hrow := row_lt (s := 1) (Nat.lt_succ_self m) (show m + 1 ≤ n from hm)
  have hlen := h.1
  refine ⟨by simpa using h.1, fun i hi j hj => ?_⟩
  by_cases him : i = m
  · subst him
    rw [if_pos (by omega)]
    have h0 := h.2 i hi
    rw [if_neg (Nat.lt_irrefl i)] at h0
    obtain rfl : j = 0 := by omega
    · simp only [Nat.mul_one, Nat.add_zero]
      rw [List.getElem?_set_self (by first | omega | (simp only [List.length_set]; omega))]; rfl
  · have e : (if i < m + 1 then stringMk l k0 i else stringAt l i) = (if i < m then stringMk l k0 i else stringAt l i) := by
      by_cases h1 : i < m
      · rw [if_pos h1, if_pos (by omega)]
      · rw [if_neg h1, if_neg (by omega)]
    rw [e, ← h.2 i hi j hj]
    have hne : i * 1 + 1 ≤ m * 1 ∨ m * 1 + 1 ≤ i * 1 := by
      rcases Nat.lt_or_gt_of_ne him with q | q
      · exact .inl (by have := Nat.mul_le_mul_right 1 (show i + 1 ≤ m by omega); omega)
      · exact .inr (by have := Nat.mul_le_mul_right 1 (show m + 1 ≤ i by omega); omega)
    rw [List.getElem?_set_ne (by omega)]
set_option maxRecDepth 100000 in
set_option maxHeartbeats 1000000 in
theorem markStringS_c (a : Option Addr) (cap : Nat) (l : List ByteArray) (n k0 lo hi : Nat) (w : World) (hown : Ow w lo hi a 1 n (stringAt l)) (hn : n ≤ 100000000) (hk0 : k0 ≤ 100000000000000) :
    Calls Try.prog 18 #[.slice a n cap, .int .i64 (k0 : Int)] w fun e w' => e = .returned (.int .i64 ((k0 + n : Nat) : Int)) ∧ Ow w' lo hi a 1 n (stringMk l k0) ∧ Chg lo hi w w' := by
  by_cases h00 : n = 0
  · subst h00
    clear hown
    go_enter Try.func18, Try.ntmps18
    go_wp2
    go_rounds 1
    go_ret
    exact ⟨ret_int (by simp), Ow.none, Chg.refl _ _ _⟩
  · obtain ⟨g, arr0, e, rfl, hlo, hhi, hg, hl, hx⟩ := hown (by omega)
    have hgs := (Array.getElem?_eq_some_iff.1 hg).1
    obtain ⟨w0, rfl⟩ : ∃ w0, putB w0 g arr0 e = w := ⟨w, putB_self hg⟩
    simp only [size_putB] at hgs
    have HX := Lib.hid hx
    have HO := Lib.hid hown
    clear hown hg hx
    have HL := Lib.hid hl
    clear hl
    go_enter Try.func18, Try.ntmps18
    go_wp2
    go_loopw [1, 5] (fun k i wr => ∃ (m : Nat) (arr : List Value) (X : Array Obj) (d : Nat), m ≤ n ∧ i = .int .i64 m ∧ k = .int .i64 ((k0 + m : Nat) : Int) ∧ String.Half l k0 n m arr ∧ wr = more (putB w0 g arr e) X d) (fun _ i _ => n - (intOf i).toNat)
    case atStart => exact ⟨0, arr0, #[], _, by omega, rfl, by simp, ⟨HL.out, fun i hi j hj => by rw [if_neg (by omega)]; exact HX.out i hi j hj⟩, more_self' _⟩
    case round =>
      obtain ⟨m, arr, X, d, hm, rfl, rfl, hf, rfl⟩ := hrel
      have HF := Lib.hid hf
      clear hf
      by_cases hlt : m < n
      · have hk1 : (m : Int) < (n : Int) := by omega
        have hk0' : (0 : Int) ≤ (m : Int) := by omega
        have hrow := row_lt (s := 1) (Nat.lt_succ_self m) (show m + 1 ≤ n from hlt)
        have harr := HF.out.1
        have g0 : m < arr.length := by omega
        clear hrow harr
        go_wp2_with (first | (go_at_call 44; refine (markText_iString _ (k0 + m + 0) (by omega) (by omega) _).mono ?_; rintro e wn ⟨rfl, hbn⟩; obtain ⟨X, nX, rfl⟩ := Below.ext hbn; clear hbn))
        refine ⟨⟨m + 1, (List.set arr (m) (.string (mtext (k0 + m + 0)))), _, _, by omega, by go_num, by go_num, HF.out.next hlt, rfl⟩, by simp only [intOf]; omega⟩
      · have hk' : m = n := by omega
        have HK := Lib.hid hk'
        clear hk'
        go_wp2
        go_ret
        have hmm := HF.out
        rw [HK.out] at hmm
        refine ⟨ret_int (by rw [HK.out]), ow_new (e := e) (arr := arr) (by rw [heap_more _ (by simpa using hgs), heap_putB hgs]) hlo hhi hmm.1 (fun i hi j hj => by rw [hmm.2 i hi j hj, if_pos hi]), ?_⟩
        refine ⟨rfl, rfl, rfl, by simp, fun k hk ho => ?_⟩
        have hk2 : k < w0.heap.size := by simpa using hk
        rw [heap_more k (by simpa using hk2), heap_putB_other k (by omega), heap_putB_other k (by omega)]
set_option maxRecDepth 100000 in
set_option maxHeartbeats 1000000 in
theorem heldStringS_c (a : Option Addr) (cap : Nat) (l : List ByteArray) (n k0 : Nat) (w : World) (hr : Sl w a 1 n (stringMk l k0)) (hn : n ≤ 100000000) (hk0 : k0 ≤ 100000000000000) :
    Calls Try.prog 19 #[.slice a n cap, .int .i64 (k0 : Int)] w fun e w' => e = .returned (.int .i64 ((k0 + n : Nat) : Int)) ∧ Below w.heap.size w w' := by
  have HR := Lib.hid hr
  clear hr
  go_enter Try.func19, Try.ntmps19
  go_wp2
  go_loopw [1, 5] (fun k i wr => ∃ (m : Nat) (X : Array Obj) (d : Nat), m ≤ n ∧ i = .int .i64 m ∧ k = .int .i64 ((k0 + m : Nat) : Int) ∧ wr = more w X d) (fun _ i _ => n - (intOf i).toNat)
  case atStart => exact ⟨0, #[], _, by omega, rfl, by simp, more_self' _⟩
  case round =>
    obtain ⟨m, X, d, hm, rfl, rfl, rfl⟩ := hrel
    by_cases hlt : m < n
    · have hk1 : (m : Int) < (n : Int) := by omega
      have hk0' : (0 : Int) ≤ (m : Int) := by omega
      obtain ⟨b, o, rfl, hb, hc⟩ := HR.out (by omega)
      have HC := Lib.hid hc
      clear hc
      have c0 : w.cell? ⟨b, o + m, none⟩ = some (.string (mtext (k0 + m + 0))) := by have := HC.out m hlt 0 (by omega); rw [Nat.mul_one, Nat.add_zero] at this; exact this
      go_wp2
      (first | refine region_q2 (by kernel_rfl) (by kernel_rfl) ?_ | refine region_q (by kernel_rfl) (by kernel_rfl) ?_)
      repeat (quiet_step (fail))
      (refine wpQuiet_step (fun K hK => ?_); go_simp; refine ⟨_, fun zt => ext_below (markText_iString _ (k0 + m + 0) (by omega) (by omega) _), hK _ ?_⟩; clear hK K)
      repeat (quiet_step (fail))
      (refine wpQuiet_nil ?_; intro X nX)
      go_wp2
      go_roundw
      case rel => exact ⟨m + 1, _, _, by omega, by go_num, by go_num, rfl⟩
      case measure => simp [intOf]; omega
    · have hk' : m = n := by omega
      have HK := Lib.hid hk'
      clear hk'
      go_wp2
      go_ret
      exact ⟨ret_int (by rw [HK.out]), (by repeat (first | exact Below.refl _ _ | refine Below.drew ?_ | refine Below.alloc ?_ (by first | exact Nat.le_refl _ | (simp; done) | (simp; omega) | omega) _ | refine Below.more ?_ (by first | exact Nat.le_refl _ | (simp; done) | (simp; omega) | omega) _ _ | refine Below.setCell ?_ (by first | exact Nat.le_refl _ | (simp; done) | (simp; omega) | omega) _ | assumption))⟩
set_option maxRecDepth 100000 in
theorem open_StringS {H : Type} {enc : TypeId × Value → H} {W : World} {v : Value} {d : DataW H} {p : List MemPlace} {base : Nat} (k : Value.okWide Try.prog W .any base 24 v) (h : DataW.Trod enc Try.prog W 0 (fun _ => true) true 24 v d p) :
    ∃ (a : Option Addr) (cap : Nat) (l : List ByteArray) (n : Nat), v = .slice a n cap ∧ Hid (l.length = n) ∧ Hid (Sl W a 1 n (stringAt l)) ∧ n ≤ 9223372036854775807 ∧ ∀ i, i < n → (l.getD i ByteArray.empty).size ≤ 9223372036854775807 := by
  obtain ⟨a0, n0, cap0, rfl⟩ := WideShapes.okWide_slice Try.underlying24 k
  obtain ⟨fuel, hf⟩ := h
  obtain ⟨a, n, cap, e, hn, hx⟩ := trod_recs (e := 9) (s := 1) (d := 8) (ts := [9]) Try.underlying24 (by kernel_rfl) (by decide) (by decide +kernel) rfl (v := .slice a0 n0 cap0) (by simpa [Value.cells] using hf)
  obtain ⟨rfl, rfl, rfl⟩ : a = a0 ∧ n = n0 ∧ cap = cap0 := by simp at e; exact ⟨e.1.symm, e.2.1.symm, e.2.2.symm⟩
  unfold maxLen at hn
  by_cases h0 : n = 0
  · subst h0
    exact ⟨_, _, [], 0, rfl, Lib.hid rfl, Lib.hid Sl.none, by omega, fun i hi => absurd hi (Nat.not_lt_zero i)⟩
  · obtain ⟨b, o, rfl, hb, hc⟩ := hx (by omega)
    have get : ∀ i, i < n → ((List.range n).map fun i => (strC (W.cell? ⟨b, o + i * 1 + 0, none⟩))).getD i ByteArray.empty = (strC (W.cell? ⟨b, o + i * 1 + 0, none⟩)) := by
      intro i hi
      rw [List.getD_eq_getElem?_getD, List.getElem?_map, List.getElem?_range hi]; rfl
    refine ⟨_, _, (List.range n).map fun i => (strC (W.cell? ⟨b, o + i * 1 + 0, none⟩)), n, rfl, Lib.hid (by simp), Lib.hid (fun _ => ⟨b, o, rfl, hb, fun i hi j hj => ?_⟩), hn, fun i hi => ?_⟩
    · unfold stringAt
      rw [get i hi]
      obtain ⟨u, m, y, hu, ht⟩ := hc i hi j hj
      rw [hu]
      obtain rfl : j = 0 := by omega
      · obtain ⟨z, e1, _, _⟩ := DataW.trod_string Try.underlying9 ht; obtain rfl : u = .string z := by simpa using e1
        simp only [hu, strC]; rfl
    · rw [get i hi]
      obtain ⟨u, m, y, hu, ht⟩ := hc i hi 0 (by decide)
      obtain ⟨z, e1, _, hz⟩ := DataW.trod_string Try.underlying9 ht; obtain rfl : u = .string z := by simpa using e1
      unfold maxLen at hz; simp only [hu, strC]; exact hz
end Go.Proofs.Ytgennnoplmhckaa
