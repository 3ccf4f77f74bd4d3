/- Contracts of FormatInt. -/
import Derived.Test.YtdkjiafdfenbkaaDoorBase
import Derived.Test.YtdkjiafdfenbkaaDoorShelf
import Derived.Laws.IdiomStrings
import Derived.IntWalk
namespace Go.Proofs.YtdkjiafdfenbkaaDoor
open Go Go.RowKit
set_option linter.unusedVariables false
/-- A number's text. -/
def fmtOk (n : Int) : Bool := decide (-1000000000 ≤ n ∧ n ≤ 1000000000)
def fmtB (n : Int) : ByteArray := if fmtOk n then ⟨(Lib.itoa n).toArray⟩ else ⟨#[]⟩
theorem fmtOk_true {n : Int} : fmtOk n = true ↔ -1000000000 ≤ n ∧ n ≤ 1000000000 := by simp [fmtOk]
theorem fmtOk_false {n : Int} : fmtOk n = false ↔ ¬ (-1000000000 ≤ n ∧ n ≤ 1000000000) := by simp [fmtOk]
/-- The table of the library's that Itoa reads. -/
def Tab (w : World) : Prop := Lib.TabIs Tryd.prog w "internal/strconv.uint64pow10" .u64 Lib.pow10Tab
theorem nDigits_bd : ∀ (k u : Nat), 1 ≤ k → u < 10 ^ k → Lib.nDigits u ≤ k
  | 0, _, h, _ => by omega
  | k + 1, u, _, h => by
    by_cases h9 : u < 10
    · rw [Lib.nDigits_small h9]; omega
    · rw [Lib.nDigits_big h9]
      by_cases hk : k = 0
      · subst hk; simp at h; omega
      · have := nDigits_bd k (u / 10) (by omega) (by rw [Nat.pow_succ] at h; omega)
        omega
theorem decDigits_len (u : Nat) : (Lib.decDigits u).length = Lib.nDigits u := by rw [Lib.decDigits_eq]; simp
theorem itoa_len {n : Int} (h : fmtOk n = true) : (Lib.itoa n).length ≤ 11 ∧ 1 ≤ (Lib.itoa n).length := by
  rw [fmtOk_true] at h
  have hp : ∀ u : Nat, u ≤ 1000000000 → Lib.nDigits u ≤ 10 := fun u hu => nDigits_bd 10 u (by omega) (by omega)
  unfold Lib.itoa
  split
  · rw [List.length_cons, decDigits_len]
    have := hp n.natAbs (by omega)
    omega
  · rw [decDigits_len]
    have := hp n.toNat (by omega)
    have := Lib.nDigits_pos n.toNat
    omega
theorem fmtB_len (n : Int) : (fmtB n).size ≤ 11 := by
  unfold fmtB
  split
  · next h => exact (itoa_len h).1
  · decide
theorem fmtB_empty {n : Int} : fmtB n = ⟨#[]⟩ ↔ fmtOk n = false := by
  unfold fmtB
  cases h : fmtOk n
  · simp
  · simp only [if_true]
    constructor
    · intro e
      have := (itoa_len h).2
      have e2 := congrArg (fun b => b.data.toList.length) e
      simp at e2
      rw [e2] at this
      simp at this
    · intro e; cases e
theorem below_grown (w : World) (k : Nat) (os : Array Obj) : Below w.heap.size w (Sort.grow (w.drewN k) os) :=
  ⟨rfl, rfl, rfl, by show w.heap.size ≤ (w.heap ++ os).size; rw [Array.size_append]; omega, fun j hj => (show (w.heap ++ os)[j]? = w.heap[j]? from Array.getElem?_append_left hj)⟩
set_option maxRecDepth 100000 in
theorem impl_FormatInt_c (n : Int) (w : World) (hT : Tab w) :
    Calls Tryd.prog 55 #[.int .i64 n] w fun e w' => e = .returned (.string (fmtB n)) ∧ Below w.heap.size w w' := by
  have HT := Lib.hid hT
  clear hT
  cases h : fmtOk n
  · have h' := fmtOk_false.1 h
    have HE := Lib.hid (show fmtB n = ⟨#[]⟩ by unfold fmtB; rw [h]; rfl)
    by_cases h1 : n < -1000000000
    · go_enter Tryd.func55, Tryd.ntmps55
      go_wp2
      go_ret
      exact ⟨by rw [HE.out]; rfl, (by repeat (first | exact Below.refl _ _ | refine Below.drew ?_ | refine Below.alloc ?_ (by first | exact Nat.le_refl _ | (simp; done) | (simp; omega) | omega) _ | refine Below.more ?_ (by first | exact Nat.le_refl _ | (simp; done) | (simp; omega) | omega) _ _ | refine Below.setCell ?_ (by first | exact Nat.le_refl _ | (simp; done) | (simp; omega) | omega) _ | assumption))⟩
    · have h2 : n > 1000000000 := by omega
      go_enter Tryd.func55, Tryd.ntmps55
      go_wp2
      go_ret
      exact ⟨by rw [HE.out]; rfl, (by repeat (first | exact Below.refl _ _ | refine Below.drew ?_ | refine Below.alloc ?_ (by first | exact Nat.le_refl _ | (simp; done) | (simp; omega) | omega) _ | refine Below.more ?_ (by first | exact Nat.le_refl _ | (simp; done) | (simp; omega) | omega) _ _ | refine Below.setCell ?_ (by first | exact Nat.le_refl _ | (simp; done) | (simp; omega) | omega) _ | assumption))⟩
  · obtain ⟨h1, h2⟩ := fmtOk_true.1 h
    have h1' : ¬ n < -1000000000 := by omega
    have h2' : ¬ n > 1000000000 := by omega
    have HE := Lib.hid (show fmtB n = ⟨(Lib.itoa n).toArray⟩ by unfold fmtB; rw [h]; rfl)
    go_enter Tryd.func55, Tryd.ntmps55
    go_wp2_with fail
    refine (Tryd.strconv_Itoa n (by omega) (by omega) _ HT.out).mono ?_
    rintro e w' ⟨rfl, k, os, rfl⟩
    go_wp2
    go_ret
    exact ⟨by rw [HE.out]; rfl, below_grown _ _ _⟩
theorem conv1 (W : World) (g : Nat) (z : Int) (h : W.cell? ⟨g, 0, none⟩ = some (.int .u8 z)) (h0 : 0 ≤ z) (h1 : z ≤ 255) :
    (convert 38 9 (.slice (some ⟨g, 0, none⟩) 1 1)).run Tryd.prog W = .ok (.string ⟨#[UInt8.ofNat z.toNat]⟩) W := by
  refine run_convert_bytes_back W 38 9 5 ⟨g, 0, none⟩ 1 [UInt8.ofNat z.toNat] Tryd.underlying38 Tryd.underlying5 Tryd.underlying9 ?_
  intro j hj
  obtain rfl : j = 0 := by simpa using hj
  rw [show (⟨g, 0, none⟩ : Addr).add 0 = ⟨g, 0, none⟩ by simp [Addr.add], h]
  simp only [List.getElem_cons_zero, Option.some.injEq, Value.int.injEq, true_and]
  have e : (UInt8.ofNat z.toNat).toNat = z.toNat % 256 := rfl
  rw [e]
  omega
theorem digit_big {u : Nat} (h : ¬ u < 10) : Lib.decDigits u = Lib.decDigits (u / 10) ++ [UInt8.ofNat (48 + u % 10)] := by rw [Lib.decDigits, dif_neg h]
theorem digit_small {u : Nat} (h : u < 10) : Lib.decDigits u = [UInt8.ofNat (48 + u)] := by rw [Lib.decDigits, dif_pos h]
theorem ba_eq {s : ByteArray} {l : List UInt8} (h : s.data.toList = l) : s = ⟨l.toArray⟩ := by
  obtain ⟨⟨x⟩⟩ := s; simp at h; rw [h]
set_option maxRecDepth 100000 in
set_option maxHeartbeats 2000000 in
theorem spec_FormatInt_nat (u0 : Nat) (hu : u0 ≤ 1000000000) (w : World) :
    Calls Tryd.prog 53 #[.int .i64 (u0 : Int)] w fun e w' => e = .returned (.string ⟨(Lib.decDigits u0).toArray⟩) ∧ Below w.heap.size w w' := by
  have hin : inB (u0 : Int) (-1000000000) 1000000000 = true := by simp [inB]; omega
  have h0 : ¬ (u0 : Int) < 0 := by omega
  go_enter Tryd.func53, Tryd.ntmps53
  go_wp2_with (go_at_call 52; refine (l01In_c _ _ _ _).mono ?_; rw [hin]; rintro e w' ⟨rfl, rfl⟩)
  go_loopw [0, 3] (fun n s wr => ∃ (u : Nat) (t : ByteArray), n = .int .i64 u ∧ s = .string t ∧ Hid (Lib.decDigits u ++ t.data.toList = Lib.decDigits u0) ∧ t.size + u ≤ u0 ∧ Below w.heap.size w wr) (fun n _ _ => (intOf n).toNat)
  case atStart => exact ⟨u0, ⟨#[]⟩, rfl, rfl, Lib.hid (List.append_nil _), by show 0 + u0 ≤ u0; omega, Below.refl _ _⟩
  case round =>
    obtain ⟨u, t, rfl, rfl, HD, hts, hbel⟩ := hrel
    have HBEL := Lib.hid hbel
    clear hbel
    by_cases h9 : u ≤ 9
    · have hlt : ¬ (u : Int) > 9 := by omega
      have hw1 : IntKind.i64.wrap (48 + (u : Int)) = 48 + (u : Int) := IntWalk.i64_in _ (by omega)
      have hw2 : IntKind.u8.wrap (48 + (u : Int)) = 48 + (u : Int) := IntWalk.u8_in _ (by omega)
      obtain ⟨d, hd⟩ : ∃ d, d = UInt8.ofNat (48 + u) := ⟨_, rfl⟩
      have hcv := fun W g (h : W.cell? ⟨g, 0, none⟩ = some (.int .u8 (48 + (u : Int)))) => conv1 W g _ h (by omega) (by omega)
      rw [show UInt8.ofNat (48 + (u : Int)).toNat = d by rw [hd]; congr 1] at hcv
      have HS := Lib.hid (show (⟨#[d]⟩ ++ t : ByteArray) = ⟨(Lib.decDigits u0).toArray⟩ from ba_eq (by rw [ByteArray.data_append, Array.toList_append, ← HD.out, digit_small (u := u) (by omega), hd]))
      clear hd
      go_wp2
      go_ret
      refine ⟨by rw [← HS.out]; rfl, HBEL.out.trans (Below.mono (show Below wr.heap.size wr _ from (by repeat (first | exact Below.refl _ _ | refine Below.drew ?_ | refine Below.alloc ?_ (by first | exact Nat.le_refl _ | (simp; done) | (simp; omega) | omega) _ | refine Below.more ?_ (by first | exact Nat.le_refl _ | (simp; done) | (simp; omega) | omega) _ _ | refine Below.setCell ?_ (by first | exact Nat.le_refl _ | (simp; done) | (simp; omega) | omega) _ | assumption))) HBEL.out.size)⟩
    · have hlt : (u : Int) > 9 := by omega
      have hr : (u : Int).tmod 10 = (u : Int) % 10 := Int.tmod_eq_emod_of_nonneg (by omega)
      have hw1 : IntKind.i64.wrap (48 + (u : Int) % 10) = 48 + (u : Int) % 10 := IntWalk.i64_in _ (by omega)
      have hw2 : IntKind.u8.wrap (48 + (u : Int) % 10) = 48 + (u : Int) % 10 := IntWalk.u8_in _ (by omega)
      have hw3 : IntKind.i64.wrap ((u : Int) / 10) = ((u / 10 : Nat) : Int) := by rw [show ((u / 10 : Nat) : Int) = (u : Int) / 10 from Int.natCast_ediv _ _]; exact IntWalk.i64_in _ (by omega)
      obtain ⟨d, hd⟩ : ∃ d, d = UInt8.ofNat (48 + u % 10) := ⟨_, rfl⟩
      have hcv := fun W g (h : W.cell? ⟨g, 0, none⟩ = some (.int .u8 (48 + (u : Int) % 10))) => conv1 W g _ h (by omega) (by omega)
      rw [show UInt8.ofNat (48 + (u : Int) % 10).toNat = d by rw [hd]; congr 1] at hcv
      have HS := Lib.hid (show Lib.decDigits (u / 10) ++ (⟨#[d]⟩ ++ t : ByteArray).data.toList = Lib.decDigits u0 from by
        rw [ByteArray.data_append, Array.toList_append, ← HD.out, digit_big (u := u) (by omega), hd, List.append_assoc])
      have hz : (⟨#[d]⟩ ++ t : ByteArray).size = 1 + t.size := by rw [ByteArray.size_append]; rfl
      clear hd
      go_wp2
      go_roundw
      case rel => exact ⟨u / 10, _, by go_num, rfl, HS.out, by rw [hz]; omega, HBEL.out.trans (Below.mono (show Below wr.heap.size wr _ from (by repeat (first | exact Below.refl _ _ | refine Below.drew ?_ | refine Below.alloc ?_ (by first | exact Nat.le_refl _ | (simp; done) | (simp; omega) | omega) _ | refine Below.more ?_ (by first | exact Nat.le_refl _ | (simp; done) | (simp; omega) | omega) _ _ | refine Below.setCell ?_ (by first | exact Nat.le_refl _ | (simp; done) | (simp; omega) | omega) _ | assumption))) HBEL.out.size)⟩
      case measure => simp [intOf]; omega
set_option maxRecDepth 100000 in
theorem spec_FormatInt_c (n : Int) (w : World) (hn : -9223372036854775808 ≤ n ∧ n ≤ 9223372036854775807) :
    Calls Tryd.prog 53 #[.int .i64 n] w fun e w' => e = .returned (.string (fmtB n)) ∧ Below w.heap.size w w' := by
  cases h : fmtOk n
  · have hin : inB n (-1000000000) 1000000000 = false := by rw [inB_false]; exact fmtOk_false.1 h
    have HE := Lib.hid (show fmtB n = ⟨#[]⟩ by unfold fmtB; rw [h]; rfl)
    go_enter Tryd.func53, Tryd.ntmps53
    go_wp2_with (go_at_call 52; refine (l01In_c _ _ _ _).mono ?_; rw [hin]; rintro e w' ⟨rfl, rfl⟩)
    go_ret
    exact ⟨by rw [HE.out]; rfl, (by repeat (first | exact Below.refl _ _ | refine Below.drew ?_ | refine Below.alloc ?_ (by first | exact Nat.le_refl _ | (simp; done) | (simp; omega) | omega) _ | refine Below.more ?_ (by first | exact Nat.le_refl _ | (simp; done) | (simp; omega) | omega) _ _ | refine Below.setCell ?_ (by first | exact Nat.le_refl _ | (simp; done) | (simp; omega) | omega) _ | assumption))⟩
  · have hb := fmtOk_true.1 h
    by_cases h0 : n < 0
    · have hin : inB n (-1000000000) 1000000000 = true := by rw [inB_true]; exact hb
      obtain ⟨m, hm⟩ : ∃ m : Nat, (m : Int) = -n := ⟨n.natAbs, by omega⟩
      have hneg : IntKind.i64.wrap (-n) = (m : Int) := by rw [hm]; exact IntWalk.i64_in _ (by omega)
      have HE := Lib.hid (show fmtB n = ⟨#[45]⟩ ++ ⟨(Lib.decDigits m).toArray⟩ by
        unfold fmtB Lib.itoa
        rw [h, if_pos rfl, if_pos h0, show n.natAbs = m by omega]
        refine (ba_eq ?_).symm
        rw [ByteArray.data_append, Array.toList_append]; rfl)
      have hz : (⟨(Lib.decDigits m).toArray⟩ : ByteArray).size ≤ 10 := by
        show (Lib.decDigits m).toArray.size ≤ 10
        rw [List.size_toArray, decDigits_len]
        exact nDigits_bd 10 m (by omega) (by omega)
      have HR := Lib.hid (fun w => spec_FormatInt_nat m (by omega) w)
      clear hm
      generalize (⟨(Lib.decDigits m).toArray⟩ : ByteArray) = t at *
      go_enter Tryd.func53, Tryd.ntmps53
      go_wp2_with (first | (go_at_call 52; refine (l01In_c _ _ _ _).mono ?_; rw [hin]; rintro e w' ⟨rfl, rfl⟩) | (go_at_call 53; refine (HR.out _).mono ?_; rintro e wn ⟨rfl, hbn⟩; obtain ⟨X, nX, rfl⟩ := Below.ext hbn; clear hbn))
      go_ret
      exact ⟨by rw [HE.out]; rfl, (by repeat (first | exact Below.refl _ _ | refine Below.drew ?_ | refine Below.alloc ?_ (by first | exact Nat.le_refl _ | (simp; done) | (simp; omega) | omega) _ | refine Below.more ?_ (by first | exact Nat.le_refl _ | (simp; done) | (simp; omega) | omega) _ _ | refine Below.setCell ?_ (by first | exact Nat.le_refl _ | (simp; done) | (simp; omega) | omega) _ | assumption))⟩
    · obtain ⟨m, rfl⟩ := Int.eq_ofNat_of_zero_le (show 0 ≤ n by omega)
      have := spec_FormatInt_nat m (by omega) w
      have HE : fmtB (m : Int) = ⟨(Lib.decDigits m).toArray⟩ := by unfold fmtB Lib.itoa; rw [h, if_pos rfl, if_neg h0]; rfl
      rw [HE]; exact this
end Go.Proofs.YtdkjiafdfenbkaaDoor
