/- Contracts of TokenTexts. -/
import Derived.Test.YtgennnoplmhckaaSToken
import Derived.Test.YtgennnoplmhckaaSString
import Derived.Test.YtgennnoplmhckaaAppend
namespace Go.Proofs.Ytgennnoplmhckaa
open Go.RowKit
/-- The texts of the tokens but the end. -/
def texts (l : List TokenD) : List ByteArray := (l.filter fun t => t.f0 != 0).map (·.f1)
theorem texts_take {l : List TokenD} {k : Nat} (h : k < l.length) : texts (l.take (k + 1)) = texts (l.take k) ++ (if (l.getD k default).f0 != 0 then [(l.getD k default).f1] else []) := by
  rw [List.take_succ_eq_append_getElem h, List.getD_eq_getElem?_getD, List.getElem?_eq_getElem h]
  simp only [texts, List.filter_append, List.map_append, List.filter_cons, List.filter_nil, Option.getD_some]
  split <;> simp
theorem texts_len (l : List TokenD) : (texts l).length ≤ l.length := by
  simp only [texts, List.length_map]; exact List.length_filter_le _ _
theorem strings_at {ts : List ByteArray} : ∀ i, i < ts.length → ∀ j, j < 1 → (ts.map Value.string)[i * 1 + j]? = (stringAt ts i)[j]? := by
  intro i hi j hj
  obtain rfl : j = 0 := by omega
  rw [Nat.mul_one, Nat.add_zero]
  simp [stringAt, hi]
set_option maxRecDepth 100000 in
set_option maxHeartbeats 1000000 in
theorem impl_TokenTexts_k (a : Option Addr) (cap : Nat) (l : List TokenD) (n : Nat) (HN : Hid (l.length = n)) (w : World) (hr : Sl w a 4 n (TokenD.at l)) (hn : n ≤ 1048576) :
    Calls Try.prog 14 #[.slice a n cap] w (GivesC w 1 (texts l).length (stringAt (texts l))) := by
  obtain ⟨i0, hi, hz0, hz1, hz2⟩ := info_parts info_String
  have HR := Lib.hid hr
  clear hr
  go_enter Try.func14, Try.ntmps14
  go_wp2
  go_loopw [3, 9] (fun out i wr => ∃ (k d : Nat) (X : Array Obj), k ≤ n ∧ i = .int .i64 k ∧ wr = more w X d ∧ (more w X d).ownsRow w.heap.size 9 1 out (texts (l.take k)).length ((texts (l.take k)).map .string)) (fun _ i _ => n - (intOf i).toNat)
  case atStart =>
    obtain ⟨X, d, e⟩ := Below.ext (w := w) (w' := w.alloc (.cells #[] 9)) (by repeat (first | exact Below.refl _ _ | refine Below.drew ?_ | refine Below.alloc ?_ (by first | exact Nat.le_refl _ | (simp; done) | (simp; omega) | omega) _ | refine Below.more ?_ (by first | exact Nat.le_refl _ | (simp; done) | (simp; omega) | omega) _ _ | refine Below.setCell ?_ (by first | exact Nat.le_refl _ | (simp; done) | (simp; omega) | omega) _ | assumption))
    refine ⟨0, d, X, Nat.zero_le _, rfl, e, ?_⟩
    rw [← e]
    simpa [texts] using World.ownsRow_made (size := 1) w #[] 0 (Nat.le_refl _) (by decide) (by simp)
  case round =>
    obtain ⟨k, d, X, hk, rfl, rfl, hown⟩ := hrel
    by_cases hlt : k < n
    · have hk1 : (k : Int) < (n : Int) := by omega
      have hst := texts_take (l := l) (k := k) (by rw [HN.out]; exact hlt)
      obtain ⟨b, o, rfl, hb, hc⟩ := HR.out (by omega)
      have HC := Lib.hid hc
      clear hc
      have c0 : w.cell? ⟨b, o + k * 4, none⟩ = some (.int .i64 (l.getD k default).f0) := HC.out k hlt 0 (by omega)
      have c1 : w.cell? ⟨b, o + k * 4 + 1, none⟩ = some (.string (l.getD k default).f1) := HC.out k hlt 1 (by omega)
      have c2 : w.cell? ⟨b, o + k * 4 + 2, none⟩ = some (.int .i64 (l.getD k default).f2) := HC.out k hlt 2 (by omega)
      have c3 : w.cell? ⟨b, o + k * 4 + 3, none⟩ = some (.int .i64 (l.getD k default).f3) := HC.out k hlt 3 (by omega)
      generalize l.getD k default = x at *
      have HST := Lib.hid hst
      clear hst
      have hlen : (texts (l.take k)).length ≤ 1048576 := Nat.le_trans (texts_len _) (by rw [List.length_take]; omega)
      by_cases hx : x.f0 = 0
      · have hxb : (x.f0 != 0) = false := by simpa using hx
        have hxf : (x.f0 == 0) = true := by simpa using hx
        go_wp2
        obtain ⟨X', d', e⟩ := Below.ext (w := w) (w' := (more w X d).alloc (.cells #[.int .i64 0, .string x.f1, .int .i64 x.f2, .int .i64 x.f3] 59)) (by repeat (first | exact Below.refl _ _ | refine Below.drew ?_ | refine Below.alloc ?_ (by first | exact Nat.le_refl _ | (simp; done) | (simp; omega) | omega) _ | refine Below.more ?_ (by first | exact Nat.le_refl _ | (simp; done) | (simp; omega) | omega) _ _ | refine Below.setCell ?_ (by first | exact Nat.le_refl _ | (simp; done) | (simp; omega) | omega) _ | assumption))
        refine ⟨⟨k + 1, d', X', by omega, rfl, e, ?_⟩, by simp only [intOf]; omega⟩
        rw [← e, HST.out, if_neg (by simp [hxb]), List.append_nil]
        exact hown.alloc _
      · have hxb : (x.f0 != 0) = true := by simpa using hx
        have hxf : (x.f0 == 0) = false := by simpa using hx
        go_wp2_with (at_builtin; go_loud (refine wpList_append_more w ?b0 rfl _ _ 24 rfl 9 i0 _ 1 16 Try.underlying24 hi hz0 hz1 hz2 rfl (by decide) _ _ _ rfl ((hown.alloc _).alloc _) _ 1 1 [.string x.f1] rfl rfl ?b2 ?b3 ?b4 ?b5 ?_))
        case b0 => exact (by repeat (first | exact Below.refl _ _ | refine Below.drew ?_ | refine Below.alloc ?_ (by first | exact Nat.le_refl _ | (simp; done) | (simp; omega) | omega) _ | refine Below.more ?_ (by first | exact Nat.le_refl _ | (simp; done) | (simp; omega) | omega) _ _ | refine Below.setCell ?_ (by first | exact Nat.le_refl _ | (simp; done) | (simp; omega) | omega) _ | assumption))
        case b2 =>
          intro j u hu
          match j, hu with
          | 0, hu =>
            obtain rfl : Value.string x.f1 = u := by simpa using hu
            simp [go_sem]
          | j + 1, hu => simp at hu
        case b3 =>
          intro u hu
          obtain rfl : u = Value.string x.f1 := by simpa using hu
          rfl
        case b4 => simp only [maxLen]; omega
        case b5 => omega
        intro v' X' d' hown' hnn
        go_wp2
        refine ⟨⟨k + 1, d', X', by omega, rfl, rfl, ?_⟩, by simp only [intOf]; omega⟩
        rw [HST.out, if_pos hxb]
        simpa using hown'
    · have hk1 : ¬ (k : Int) < (n : Int) := by omega
      go_wp2
      go_ret
      have ht : l.take k = l := List.take_of_length_le (by rw [HN.out]; omega)
      rw [ht] at hown
      obtain ⟨a', cap', rfl, ho, hcc⟩ := ow_of_ownsRow_cap hown strings_at
      exact ⟨a', cap', rfl, ho, (by repeat (first | exact Below.refl _ _ | refine Below.drew ?_ | refine Below.alloc ?_ (by first | exact Nat.le_refl _ | (simp; done) | (simp; omega) | omega) _ | refine Below.more ?_ (by first | exact Nat.le_refl _ | (simp; done) | (simp; omega) | omega) _ _ | refine Below.setCell ?_ (by first | exact Nat.le_refl _ | (simp; done) | (simp; omega) | omega) _ | assumption)), hcc⟩
theorem impl_TokenTexts_c (a : Option Addr) (cap : Nat) (l : List TokenD) (n : Nat) (HN : Hid (l.length = n)) (w : World) (hr : Sl w a 4 n (TokenD.at l)) (hn : n ≤ 1048576) :
    Calls Try.prog 14 #[.slice a n cap] w (Gives w 1 (texts l).length (stringAt (texts l))) :=
  (impl_TokenTexts_k a cap l n HN w hr hn).mono fun _ _ h => h.gives
set_option maxRecDepth 100000 in
set_option maxHeartbeats 1000000 in
theorem spec_TokenTexts_k (a : Option Addr) (cap : Nat) (l : List TokenD) (n : Nat) (HN : Hid (l.length = n)) (w : World) (hr : Sl w a 4 n (TokenD.at l)) (hn : n ≤ 1048576) :
    Calls Try.prog 12 #[.slice a n cap] w (GivesC w 1 (texts l).length (stringAt (texts l))) := by
  obtain ⟨i0, hi, hz0, hz1, hz2⟩ := info_parts info_String
  have HR := Lib.hid hr
  clear hr
  go_enter Try.func12, Try.ntmps12
  go_wp2
  go_loopw [3, 9] (fun out i wr => ∃ (k d : Nat) (X : Array Obj), k ≤ n ∧ i = .int .i64 k ∧ wr = more w X d ∧ (more w X d).ownsRow w.heap.size 9 1 out (texts (l.take k)).length ((texts (l.take k)).map .string)) (fun _ i _ => n - (intOf i).toNat)
  case atStart =>
    obtain ⟨X, d, e⟩ := Below.ext (w := w) (w' := w.alloc (.cells #[] 9)) (by repeat (first | exact Below.refl _ _ | refine Below.drew ?_ | refine Below.alloc ?_ (by first | exact Nat.le_refl _ | (simp; done) | (simp; omega) | omega) _ | refine Below.more ?_ (by first | exact Nat.le_refl _ | (simp; done) | (simp; omega) | omega) _ _ | refine Below.setCell ?_ (by first | exact Nat.le_refl _ | (simp; done) | (simp; omega) | omega) _ | assumption))
    refine ⟨0, d, X, Nat.zero_le _, rfl, e, ?_⟩
    rw [← e]
    simpa [texts] using World.ownsRow_made (size := 1) w #[] 0 (Nat.le_refl _) (by decide) (by simp)
  case round =>
    obtain ⟨k, d, X, hk, rfl, rfl, hown⟩ := hrel
    by_cases hlt : k < n
    · have hk1 : (k : Int) < (n : Int) := by omega
      have hst := texts_take (l := l) (k := k) (by rw [HN.out]; exact hlt)
      obtain ⟨b, o, rfl, hb, hc⟩ := HR.out (by omega)
      have HC := Lib.hid hc
      clear hc
      have c0 : w.cell? ⟨b, o + k * 4, none⟩ = some (.int .i64 (l.getD k default).f0) := HC.out k hlt 0 (by omega)
      have c1 : w.cell? ⟨b, o + k * 4 + 1, none⟩ = some (.string (l.getD k default).f1) := HC.out k hlt 1 (by omega)
      have c2 : w.cell? ⟨b, o + k * 4 + 2, none⟩ = some (.int .i64 (l.getD k default).f2) := HC.out k hlt 2 (by omega)
      have c3 : w.cell? ⟨b, o + k * 4 + 3, none⟩ = some (.int .i64 (l.getD k default).f3) := HC.out k hlt 3 (by omega)
      generalize l.getD k default = x at *
      have HST := Lib.hid hst
      clear hst
      have hlen : (texts (l.take k)).length ≤ 1048576 := Nat.le_trans (texts_len _) (by rw [List.length_take]; omega)
      by_cases hx : x.f0 = 0
      · have hxb : (x.f0 != 0) = false := by simpa using hx
        have hxf : (x.f0 == 0) = true := by simpa using hx
        go_wp2
        obtain ⟨X', d', e⟩ := Below.ext (w := w) (w' := (more w X d).alloc (.cells #[.int .i64 0, .string x.f1, .int .i64 x.f2, .int .i64 x.f3] 59)) (by repeat (first | exact Below.refl _ _ | refine Below.drew ?_ | refine Below.alloc ?_ (by first | exact Nat.le_refl _ | (simp; done) | (simp; omega) | omega) _ | refine Below.more ?_ (by first | exact Nat.le_refl _ | (simp; done) | (simp; omega) | omega) _ _ | refine Below.setCell ?_ (by first | exact Nat.le_refl _ | (simp; done) | (simp; omega) | omega) _ | assumption))
        refine ⟨⟨k + 1, d', X', by omega, rfl, e, ?_⟩, by simp only [intOf]; omega⟩
        rw [← e, HST.out, if_neg (by simp [hxb]), List.append_nil]
        exact hown.alloc _
      · have hxb : (x.f0 != 0) = true := by simpa using hx
        have hxf : (x.f0 == 0) = false := by simpa using hx
        go_wp2_with (at_builtin; go_loud (refine wpList_append_more w ?b0 rfl _ _ 24 rfl 9 i0 _ 1 16 Try.underlying24 hi hz0 hz1 hz2 rfl (by decide) _ _ _ rfl ((hown.alloc _).alloc _) _ 1 1 [.string x.f1] rfl rfl ?b2 ?b3 ?b4 ?b5 ?_))
        case b0 => exact (by repeat (first | exact Below.refl _ _ | refine Below.drew ?_ | refine Below.alloc ?_ (by first | exact Nat.le_refl _ | (simp; done) | (simp; omega) | omega) _ | refine Below.more ?_ (by first | exact Nat.le_refl _ | (simp; done) | (simp; omega) | omega) _ _ | refine Below.setCell ?_ (by first | exact Nat.le_refl _ | (simp; done) | (simp; omega) | omega) _ | assumption))
        case b2 =>
          intro j u hu
          match j, hu with
          | 0, hu =>
            obtain rfl : Value.string x.f1 = u := by simpa using hu
            simp [go_sem]
          | j + 1, hu => simp at hu
        case b3 =>
          intro u hu
          obtain rfl : u = Value.string x.f1 := by simpa using hu
          rfl
        case b4 => simp only [maxLen]; omega
        case b5 => omega
        intro v' X' d' hown' hnn
        go_wp2
        refine ⟨⟨k + 1, d', X', by omega, rfl, rfl, ?_⟩, by simp only [intOf]; omega⟩
        rw [HST.out, if_pos hxb]
        simpa using hown'
    · have hk1 : ¬ (k : Int) < (n : Int) := by omega
      go_wp2
      go_ret
      have ht : l.take k = l := List.take_of_length_le (by rw [HN.out]; omega)
      rw [ht] at hown
      obtain ⟨a', cap', rfl, ho, hcc⟩ := ow_of_ownsRow_cap hown strings_at
      exact ⟨a', cap', rfl, ho, (by repeat (first | exact Below.refl _ _ | refine Below.drew ?_ | refine Below.alloc ?_ (by first | exact Nat.le_refl _ | (simp; done) | (simp; omega) | omega) _ | refine Below.more ?_ (by first | exact Nat.le_refl _ | (simp; done) | (simp; omega) | omega) _ _ | refine Below.setCell ?_ (by first | exact Nat.le_refl _ | (simp; done) | (simp; omega) | omega) _ | assumption)), hcc⟩
theorem spec_TokenTexts_c (a : Option Addr) (cap : Nat) (l : List TokenD) (n : Nat) (HN : Hid (l.length = n)) (w : World) (hr : Sl w a 4 n (TokenD.at l)) (hn : n ≤ 1048576) :
    Calls Try.prog 12 #[.slice a n cap] w (Gives w 1 (texts l).length (stringAt (texts l))) :=
  (spec_TokenTexts_k a cap l n HN w hr hn).mono fun _ _ h => h.gives
end Go.Proofs.Ytgennnoplmhckaa
