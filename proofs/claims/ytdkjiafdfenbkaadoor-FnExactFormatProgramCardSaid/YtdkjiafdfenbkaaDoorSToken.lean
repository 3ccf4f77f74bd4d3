/- Contracts of what the laws do with slices of Token. -/
import Derived.Test.YtdkjiafdfenbkaaDoorTrod
import Derived.Test.YtdkjiafdfenbkaaDoorRecs
import Derived.Test.YtdkjiafdfenbkaaDoorMarkText
namespace Go.Proofs.YtdkjiafdfenbkaaDoor
open Go.RowKit
set_option linter.unusedVariables false
structure TokenD where
  f0 : Int
  f1 : ByteArray
  f2 : Int
  f3 : Int
instance : Inhabited TokenD := ⟨⟨0, ByteArray.empty, 0, 0⟩⟩
@[reducible] def TokenD.cells (x : TokenD) : List Value := [.int .i64 x.f0, .string x.f1, .int .i64 x.f2, .int .i64 x.f3]
def TokenD.at (l : List TokenD) (i : Nat) : List Value := (l.getD i default).cells
theorem TokenD.at_len (l : List TokenD) (i : Nat) : (TokenD.at l i).length = 4 := rfl
theorem info_Token : (Tryd.prog.info? 87).map (fun i => (i.zero, i.size, i.bytes)) = some (some (.agg #[.int .i64 0, .string ByteArray.empty, .int .i64 0, .int .i64 0]), 4, 40) := by kernel_rfl
set_option maxRecDepth 100000 in
theorem eqToken_c (x : TokenD) (w : World) : Calls Tryd.prog 61 #[.agg ⟨x.cells⟩, .agg ⟨x.cells⟩] w fun e w' => e = .returned (.bool true) ∧ Below w.heap.size w w' := by
  obtain ⟨f0, f1, f2, f3⟩ := x
  go_enter Tryd.func61, Tryd.ntmps61
  go_wp2
  all_goals (go_ret; exact ⟨rfl, (by repeat (first | exact Below.refl _ _ | refine Below.drew ?_ | refine Below.alloc ?_ (by first | exact Nat.le_refl _ | (simp; done) | (simp; omega) | omega) _ | refine Below.more ?_ (by first | exact Nat.le_refl _ | (simp; done) | (simp; omega) | omega) _ _ | refine Below.setCell ?_ (by first | exact Nat.le_refl _ | (simp; done) | (simp; omega) | omega) _ | assumption))⟩)
set_option maxRecDepth 100000 in
set_option maxHeartbeats 1000000 in
theorem eqTokenS_c (a a' : Option Addr) (cap cap' : Nat) (l : List TokenD) (n : Nat) (w : World) (hr : Sl w a 4 n (TokenD.at l)) (hr' : Sl w a' 4 n (TokenD.at l)) (hn : n ≤ 9223372036854775807) :
    Calls Tryd.prog 27 #[.slice a n cap, .slice a' n cap'] w fun e w' => e = .returned (.bool true) ∧ Below w.heap.size w w' := by
  have HR := Lib.hid hr
  have HR' := Lib.hid hr'
  clear hr hr'
  go_enter Tryd.func27, Tryd.ntmps27
  go_wp2
  go_loopw [5] (fun i wr => ∃ (k d : Nat) (X : Array Obj), k ≤ n ∧ i = .int .i64 k ∧ wr = more w X d) (fun i _ => n - (intOf i).toNat)
  case atStart => exact ⟨0, _, #[], by omega, rfl, more_self' w⟩
  case round =>
    obtain ⟨k, d, X0, hk, rfl, rfl⟩ := hrel
    by_cases hlt : k < n
    · have hk1 : (k : Int) < (n : Int) := by omega
      have hk0 : (0 : Int) ≤ (k : Int) := by omega
      obtain ⟨b, o, rfl, hb, hc⟩ := HR.out (by omega)
      have HC := Lib.hid hc
      clear hc
      obtain ⟨b', o', rfl, hb', hc'⟩ := HR'.out (by omega)
      have HC2 := Lib.hid hc'
      clear hc'
      have c0 : w.cell? ⟨b, o + k * 4, none⟩ = some (.int .i64 (l.getD k default).f0) := HC.out k hlt 0 (by omega)
      have c1 : w.cell? ⟨b, o + k * 4 + 1, none⟩ = some (.string (l.getD k default).f1) := HC.out k hlt 1 (by omega)
      have c2 : w.cell? ⟨b, o + k * 4 + 2, none⟩ = some (.int .i64 (l.getD k default).f2) := HC.out k hlt 2 (by omega)
      have c3 : w.cell? ⟨b, o + k * 4 + 3, none⟩ = some (.int .i64 (l.getD k default).f3) := HC.out k hlt 3 (by omega)
      have e0 : w.cell? ⟨b', o' + k * 4, none⟩ = some (.int .i64 (l.getD k default).f0) := HC2.out k hlt 0 (by omega)
      have e1 : w.cell? ⟨b', o' + k * 4 + 1, none⟩ = some (.string (l.getD k default).f1) := HC2.out k hlt 1 (by omega)
      have e2 : w.cell? ⟨b', o' + k * 4 + 2, none⟩ = some (.int .i64 (l.getD k default).f2) := HC2.out k hlt 2 (by omega)
      have e3 : w.cell? ⟨b', o' + k * 4 + 3, none⟩ = some (.int .i64 (l.getD k default).f3) := HC2.out k hlt 3 (by omega)
      generalize l.getD k default = x at *
      go_wp2
      (first | refine region_q2 (by kernel_rfl) (by kernel_rfl) ?_ | refine region_q (by kernel_rfl) (by kernel_rfl) ?_)
      repeat (quiet_step (fail))
      (refine wpQuiet_step (fun K hK => ?_); go_simp; refine ⟨_, fun zt => ext_below (eqToken_c x _), hK _ ?_⟩; clear hK K)
      repeat (quiet_step (fail))
      (refine wpQuiet_nil ?_; intro X nX)
      go_wp2
      go_roundw
      case rel => exact ⟨k + 1, _, _, by omega, by go_num, rfl⟩
      case measure => simp [intOf]; omega
    · go_wp2
      go_ret
      exact ⟨rfl, (by repeat (first | exact Below.refl _ _ | refine Below.drew ?_ | refine Below.alloc ?_ (by first | exact Nat.le_refl _ | (simp; done) | (simp; omega) | omega) _ | refine Below.more ?_ (by first | exact Nat.le_refl _ | (simp; done) | (simp; omega) | omega) _ _ | refine Below.setCell ?_ (by first | exact Nat.le_refl _ | (simp; done) | (simp; omega) | omega) _ | assumption))⟩
/-- The cells of an element that bears the marks. -/
def TokenD.mks (l : List TokenD) (k0 i : Nat) : List Value := [.int .i64 ((k0 : Int) + (i : Int) * 4), .string (mtext (k0 + i * 4 + 1)), .int .i64 ((k0 : Int) + (i : Int) * 4 + 1 + 1), .int .i64 ((k0 : Int) + (i : Int) * 4 + 1 + 1 + 1)]
theorem TokenD.mks_len (l : List TokenD) (k0 i : Nat) : (TokenD.mks l k0 i).length = 4 := rfl
theorem markText_iToken (x : Int) (m : Nat) (e : x = (m : Int)) (h : m ≤ 1000000000000000) (w : World) : Calls Tryd.prog 62 #[.int .i64 x] w fun e w' => e = .returned (.string (mtext m)) ∧ Below w.heap.size w w' := by
  subst e; exact markText_c m h w
/-- The first m elements bear the marks, the others what they had. -/
def Token.Half (l : List TokenD) (k0 n m : Nat) (arr : List Value) : Prop := arr.length ≥ n * 4 ∧ ∀ i, i < n → ∀ j, j < 4 → arr[i * 4 + j]? = (if i < m then TokenD.mks l k0 i else TokenD.at l i)[j]?
theorem Token.Half.next {l : List TokenD} {k0 n m : Nat} {arr : List Value} (h : Token.Half l k0 n m arr) (hm : m < n) : Token.Half l k0 n (m + 1) ((List.set (List.set (List.set (List.set arr (m * 4) (.int .i64 ((k0 : Int) + (m : Int) * 4))) (m * 4 + 1) (.string (mtext (k0 + m * 4 + 1)))) (m * 4 + 2) (.int .i64 ((k0 : Int) + (m : Int) * 4 + 1 + 1))) (m * 4 + 3) (.int .i64 ((k0 : Int) + (m : Int) * 4 + 1 + 1 + 1)))) := by
  have hrow := row_lt (s := 4) (Nat.lt_succ_self m) (show m + 1 ≤ n from hm)
  have hlen := h.1
  refine ⟨by simpa using h.1, fun i hi j hj => ?_⟩
  by_cases him : i = m
  · subst him
    rw [if_pos (by omega)]
    have h0 := h.2 i hi
    rw [if_neg (Nat.lt_irrefl i)] at h0
    obtain rfl | rfl | rfl | rfl : j = 0 ∨ j = 1 ∨ j = 2 ∨ j = 3 := by omega
    · (try simp only [Nat.mul_one]); (try simp only [Nat.add_zero])
      rw [List.getElem?_set_ne (by omega), List.getElem?_set_ne (by omega), List.getElem?_set_ne (by omega), List.getElem?_set_self (by first | omega | (simp only [List.length_set]; omega))]; rfl
    · rw [List.getElem?_set_ne (by omega), List.getElem?_set_ne (by omega), List.getElem?_set_self (by first | omega | (simp only [List.length_set]; omega))]; rfl
    · rw [List.getElem?_set_ne (by omega), List.getElem?_set_self (by first | omega | (simp only [List.length_set]; omega))]; rfl
    · rw [List.getElem?_set_self (by first | omega | (simp only [List.length_set]; omega))]; rfl
  · have e : (if i < m + 1 then TokenD.mks l k0 i else TokenD.at l i) = (if i < m then TokenD.mks l k0 i else TokenD.at l i) := by
      by_cases h1 : i < m
      · rw [if_pos h1, if_pos (by omega)]
      · rw [if_neg h1, if_neg (by omega)]
    rw [e, ← h.2 i hi j hj]
    have hne : i * 4 + 4 ≤ m * 4 ∨ m * 4 + 4 ≤ i * 4 := by
      rcases Nat.lt_or_gt_of_ne him with q | q
      · exact .inl (by have := Nat.mul_le_mul_right 4 (show i + 1 ≤ m by omega); omega)
      · exact .inr (by have := Nat.mul_le_mul_right 4 (show m + 1 ≤ i by omega); omega)
    rw [List.getElem?_set_ne (by omega), List.getElem?_set_ne (by omega), List.getElem?_set_ne (by omega), List.getElem?_set_ne (by omega)]
set_option maxRecDepth 100000 in
set_option maxHeartbeats 1000000 in
theorem markTokenS_c (a : Option Addr) (cap : Nat) (l : List TokenD) (n k0 lo hi : Nat) (w : World) (hown : Ow w lo hi a 4 n (TokenD.at l)) (hn : n ≤ 100000000) (hk0 : k0 ≤ 100000000000000) :
    Calls Tryd.prog 28 #[.slice a n cap, .int .i64 (k0 : Int)] w fun e w' => e = .returned (.int .i64 ((k0 + n * 4 : Nat) : Int)) ∧ Ow w' lo hi a 4 n (TokenD.mks l k0) ∧ Chg lo hi w w' := by
  by_cases h00 : n = 0
  · subst h00
    clear hown
    go_enter Tryd.func28, Tryd.ntmps28
    go_wp2
    go_rounds 1
    go_ret
    exact ⟨ret_int (by simp), Ow.none, Chg.refl _ _ _⟩
  · obtain ⟨g, arr0, e, rfl, hlo, hhi, hg, hl, hx⟩ := hown (by omega)
    have hgs := (Array.getElem?_eq_some_iff.1 hg).1
    obtain ⟨w0, rfl⟩ : ∃ w0, putB w0 g arr0 e = w := ⟨w, putB_self hg⟩
    simp only [size_putB] at hgs
    have HX := Lib.hid hx
    have HO := Lib.hid hown
    clear hown hg hx
    have HL := Lib.hid hl
    clear hl
    go_enter Tryd.func28, Tryd.ntmps28
    go_wp2
    go_loopw [1, 5] (fun k i wr => ∃ (m : Nat) (arr : List Value) (X : Array Obj) (d : Nat), m ≤ n ∧ i = .int .i64 m ∧ k = .int .i64 ((k0 + m * 4 : Nat) : Int) ∧ Token.Half l k0 n m arr ∧ wr = more (putB w0 g arr e) X d) (fun _ i _ => n - (intOf i).toNat)
    case atStart => exact ⟨0, arr0, #[], _, by omega, rfl, by simp, ⟨HL.out, fun i hi j hj => by rw [if_neg (by omega)]; exact HX.out i hi j hj⟩, more_self' _⟩
    case round =>
      obtain ⟨m, arr, X, d, hm, rfl, rfl, hf, rfl⟩ := hrel
      have HF := Lib.hid hf
      clear hf
      by_cases hlt : m < n
      · have hk1 : (m : Int) < (n : Int) := by omega
        have hk0' : (0 : Int) ≤ (m : Int) := by omega
        have hrow := row_lt (s := 4) (Nat.lt_succ_self m) (show m + 1 ≤ n from hlt)
        have harr := HF.out.1
        have g0 : m * 4 < arr.length := by omega
        have g1 : m * 4 + 1 < arr.length := by omega
        have g2 : m * 4 + 2 < arr.length := by omega
        have g3 : m * 4 + 3 < arr.length := by omega
        clear hrow harr
        go_wp2_with (first | (go_at_call 62; refine (markText_iToken _ (k0 + m * 4 + 1) (by omega) (by omega) _).mono ?_; rintro e wn ⟨rfl, hbn⟩; obtain ⟨X, nX, rfl⟩ := Below.ext hbn; clear hbn))
        refine ⟨⟨m + 1, (List.set (List.set (List.set (List.set arr (m * 4) (.int .i64 ((k0 : Int) + (m : Int) * 4))) (m * 4 + 1) (.string (mtext (k0 + m * 4 + 1)))) (m * 4 + 2) (.int .i64 ((k0 : Int) + (m : Int) * 4 + 1 + 1))) (m * 4 + 3) (.int .i64 ((k0 : Int) + (m : Int) * 4 + 1 + 1 + 1))), _, _, by omega, by go_num, by go_num, HF.out.next hlt, rfl⟩, by simp only [intOf]; omega⟩
      · have hk' : m = n := by omega
        have HK := Lib.hid hk'
        clear hk'
        go_wp2
        go_ret
        have hmm := HF.out
        rw [HK.out] at hmm
        refine ⟨ret_int (by rw [HK.out]), ow_new (e := e) (arr := arr) (by rw [heap_more _ (by simpa using hgs), heap_putB hgs]) hlo hhi hmm.1 (fun i hi j hj => by rw [hmm.2 i hi j hj, if_pos hi]), ?_⟩
        refine ⟨rfl, rfl, rfl, by simp, fun k hk ho => ?_⟩
        have hk2 : k < w0.heap.size := by simpa using hk
        rw [heap_more k (by simpa using hk2), heap_putB_other k (by omega), heap_putB_other k (by omega)]
set_option maxRecDepth 100000 in
set_option maxHeartbeats 1000000 in
theorem heldTokenS_c (a : Option Addr) (cap : Nat) (l : List TokenD) (n k0 : Nat) (w : World) (hr : Sl w a 4 n (TokenD.mks l k0)) (hn : n ≤ 100000000) (hk0 : k0 ≤ 100000000000000) :
    Calls Tryd.prog 29 #[.slice a n cap, .int .i64 (k0 : Int)] w fun e w' => e = .returned (.int .i64 ((k0 + n * 4 : Nat) : Int)) ∧ Below w.heap.size w w' := by
  have HR := Lib.hid hr
  clear hr
  go_enter Tryd.func29, Tryd.ntmps29
  go_wp2
  go_loopw [1, 5] (fun k i wr => ∃ (m : Nat) (X : Array Obj) (d : Nat), m ≤ n ∧ i = .int .i64 m ∧ k = .int .i64 ((k0 + m * 4 : Nat) : Int) ∧ wr = more w X d) (fun _ i _ => n - (intOf i).toNat)
  case atStart => exact ⟨0, #[], _, by omega, rfl, by simp, more_self' _⟩
  case round =>
    obtain ⟨m, X, d, hm, rfl, rfl, rfl⟩ := hrel
    by_cases hlt : m < n
    · have hk1 : (m : Int) < (n : Int) := by omega
      have hk0' : (0 : Int) ≤ (m : Int) := by omega
      obtain ⟨b, o, rfl, hb, hc⟩ := HR.out (by omega)
      have HC := Lib.hid hc
      clear hc
      have c0 : w.cell? ⟨b, o + m * 4, none⟩ = some (.int .i64 ((k0 : Int) + (m : Int) * 4)) := HC.out m hlt 0 (by omega)
      have c1 : w.cell? ⟨b, o + m * 4 + 1, none⟩ = some (.string (mtext (k0 + m * 4 + 1))) := HC.out m hlt 1 (by omega)
      have c2 : w.cell? ⟨b, o + m * 4 + 2, none⟩ = some (.int .i64 ((k0 : Int) + (m : Int) * 4 + 1 + 1)) := HC.out m hlt 2 (by omega)
      have c3 : w.cell? ⟨b, o + m * 4 + 3, none⟩ = some (.int .i64 ((k0 : Int) + (m : Int) * 4 + 1 + 1 + 1)) := HC.out m hlt 3 (by omega)
      go_wp2
      (first | refine region_q2 (by kernel_rfl) (by kernel_rfl) ?_ | refine region_q (by kernel_rfl) (by kernel_rfl) ?_)
      repeat (quiet_step (fail))
      (refine wpQuiet_step (fun K hK => ?_); go_simp; refine ⟨_, fun zt => ext_below (markText_iToken _ (k0 + m * 4 + 1) (by omega) (by omega) _), hK _ ?_⟩; clear hK K)
      repeat (quiet_step (fail))
      (refine wpQuiet_nil ?_; intro X nX)
      go_wp2
      go_roundw
      case rel => exact ⟨m + 1, _, _, by omega, by go_num, by go_num, rfl⟩
      case measure => simp [intOf]; omega
    · have hk' : m = n := by omega
      have HK := Lib.hid hk'
      clear hk'
      go_wp2
      go_ret
      exact ⟨ret_int (by rw [HK.out]), (by repeat (first | exact Below.refl _ _ | refine Below.drew ?_ | refine Below.alloc ?_ (by first | exact Nat.le_refl _ | (simp; done) | (simp; omega) | omega) _ | refine Below.more ?_ (by first | exact Nat.le_refl _ | (simp; done) | (simp; omega) | omega) _ _ | refine Below.setCell ?_ (by first | exact Nat.le_refl _ | (simp; done) | (simp; omega) | omega) _ | assumption))⟩
end Go.Proofs.YtdkjiafdfenbkaaDoor
