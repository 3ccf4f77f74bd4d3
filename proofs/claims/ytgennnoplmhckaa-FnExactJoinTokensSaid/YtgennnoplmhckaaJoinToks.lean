/- Contracts of JoinTokens. -/
import Derived.Test.YtgennnoplmhckaaTokTexts
import Derived.Test.YtgennnoplmhckaaJoin
namespace Go.Proofs.Ytgennnoplmhckaa
open Go Go.RowKit
theorem texts_bd {l : List TokenD} {n : Nat} (HN : l.length = n) (h : ∀ i, i < n → (l.getD i default).f1.size ≤ 1048576) : ∀ t ∈ texts l, t.size ≤ 1048576 := by
  intro t ht
  obtain ⟨x, hx, rfl⟩ := List.mem_map.1 ht
  obtain ⟨i, hi⟩ := List.mem_iff_getElem?.1 (List.mem_filter.1 hx).1
  have hil : i < l.length := (List.getElem?_eq_some_iff.1 hi).1
  have := h i (by omega)
  rw [List.getD_eq_getElem?_getD, hi] at this
  exact this
def sp : ByteArray := ⟨#[32]⟩
set_option maxRecDepth 100000 in
theorem impl_JoinTokens_c (a : Option Addr) (cap : Nat) (l : List TokenD) (n : Nat) (HN : Hid (l.length = n)) (w : World) (hr : Sl w a 4 n (TokenD.at l)) (hn : n ≤ 1048576) (hB : ∀ i, i < n → (l.getD i default).f1.size ≤ 1048576) :
    Calls Try.prog 21 #[.slice a n cap] w fun e w' => e = .returned (.string (joinB (texts l) ⟨#[32]⟩)) ∧ Below w.heap.size w w' := by
  have HB := Lib.hid (texts_bd HN.out hB)
  have HR := Lib.hid hr
  have HL := Lib.hid (show (texts l).length ≤ 1048576 from Nat.le_trans (texts_len l) (by rw [HN.out]; exact hn))
  clear hB hr
  go_enter Try.func21, Try.ntmps21
  go_wp2_with fail
  refine (impl_TokenTexts_k a cap l n HN _ HR.out hn).mono ?_
  rintro e w1 ⟨a1, c1, rfl, ho, hb, hcc⟩
  have HO := Lib.hid ho
  have HBE := Lib.hid hb
  clear ho hb
  go_wp2_with fail
  refine (impl_Join_c a1 c1 (texts l) _ (Lib.hid rfl) ⟨#[32]⟩ w1 HO.out.sl HL.out hcc HB.out (by decide)).mono ?_
  rintro e w2 ⟨rfl, hb2⟩
  have HB2 := Lib.hid hb2
  clear hb2
  go_wp2
  go_ret
  exact ⟨rfl, HBE.out.trans (HB2.out.mono HBE.out.size)⟩
set_option maxRecDepth 100000 in
theorem spec_JoinTokens_c (a : Option Addr) (cap : Nat) (l : List TokenD) (n : Nat) (HN : Hid (l.length = n)) (w : World) (hr : Sl w a 4 n (TokenD.at l)) (hn : n ≤ 1048576) (hB : ∀ i, i < n → (l.getD i default).f1.size ≤ 1048576) :
    Calls Try.prog 20 #[.slice a n cap] w fun e w' => e = .returned (.string (joinB (texts l) ⟨#[32]⟩)) ∧ Below w.heap.size w w' := by
  have HB := Lib.hid (texts_bd HN.out hB)
  have HR := Lib.hid hr
  have HL := Lib.hid (show (texts l).length ≤ 1048576 from Nat.le_trans (texts_len l) (by rw [HN.out]; exact hn))
  clear hB hr
  go_enter Try.func20, Try.ntmps20
  go_wp2_with fail
  refine (spec_TokenTexts_c a cap l n HN _ HR.out hn).mono ?_
  rintro e w1 ⟨a1, c1, rfl, ho, hb⟩
  have HO := Lib.hid ho
  have HBE := Lib.hid hb
  clear ho hb
  go_wp2_with fail
  refine (spec_Join_c a1 c1 (texts l) _ (Lib.hid rfl) ⟨#[32]⟩ w1 HO.out.sl HL.out HB.out (by decide)).mono ?_
  rintro e w2 ⟨rfl, rfl⟩
  go_wp2
  go_ret
  exact ⟨rfl, HBE.out⟩
end Go.Proofs.Ytgennnoplmhckaa
