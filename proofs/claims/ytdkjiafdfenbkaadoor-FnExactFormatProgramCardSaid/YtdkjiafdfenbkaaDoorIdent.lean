/- Contracts of IsIdentifier. -/
import Derived.Test.YtdkjiafdfenbkaaDoorBase
import Derived.Laws.RangeAny
namespace Go.Proofs.YtdkjiafdfenbkaaDoor
open Go.RowKit
def byteAt (s : ByteArray) (k : Nat) : Nat := if h : k < s.size then (s[k]'h).toNat else 0
theorem byteAt_eq {s : ByteArray} {k : Nat} (h : k < s.size) : (s[k]'h).toNat = byteAt s k := by simp [byteAt, h]
theorem byteAt_lt (s : ByteArray) (k : Nat) : byteAt s k < 256 := by
  unfold byteAt; split
  · exact UInt8.toNat_lt _
  · omega
/-- A byte that may stand at place k of a name. -/
def idOk (c k : Nat) : Prop := (97 ≤ c ∧ c ≤ 122) ∨ (k ≠ 0 ∧ 48 ≤ c ∧ c ≤ 57)
instance (c k : Nat) : Decidable (idOk c k) := by unfold idOk; infer_instance
open Classical in
noncomputable def identB (s : ByteArray) : Bool := decide (∀ k, k < s.size → idOk (byteAt s k) k) && inB s.size 1 8
theorem identB_no {s : ByteArray} {k : Nat} (h : k < s.size) (hn : ¬ idOk (byteAt s k) k) : identB s = false := by
  simp only [identB, Bool.and_eq_false_iff, decide_eq_false_iff_not]
  exact .inl fun ha => hn (ha k h)
theorem identB_all {s : ByteArray} (h : ∀ k, k < s.size → idOk (byteAt s k) k) : identB s = inB s.size 1 8 := by
  simp only [identB, Bool.and_eq_right_iff_imp, decide_eq_true_eq]
  exact fun _ => h
set_option maxRecDepth 100000 in
set_option maxHeartbeats 3000000 in
theorem impl_IsIdentifier_c (s : ByteArray) (w : World) :
    Calls Tryd.prog 109 #[.string s] w fun e w' => e = .returned (.bool (identB s)) ∧ Below w.heap.size w w' := by
  go_enter Tryd.func109, Tryd.ntmps109
  go_wp2
  go_loopw [] (fun w' => ∃ pos, w' = w.iter s pos ∧ (∀ k, k < pos → k < s.size → idOk (byteAt s k) k)) (fun w' => s.size - w'.iterPos w.heap.size)
  case atStart => exact ⟨0, rfl, by omega⟩
  case round =>
    obtain ⟨pos, rfl, hok⟩ := hrel
    by_cases hp : pos < s.size
    · have hnx : ∀ ty, (Instr.next (.pointer (some ⟨w.heap.size, 0, none⟩)) true ty).run Tryd.prog (w.iter s pos) = _ := fun ty => run_next_any w s pos ty hp
      have hwd : (if byteAt s pos < 128 then (Utf8.decode s pos).1 = byteAt s pos ∧ (Utf8.decode s pos).2 = 1 else 128 ≤ (Utf8.decode s pos).1 ∧ 1 ≤ (Utf8.decode s pos).2) := by
        by_cases ha : byteAt s pos < 128
        · rw [if_pos ha, decode_ascii s pos hp (by rw [byteAt_eq hp]; exact ha), byteAt_eq hp]; exact ⟨rfl, rfl⟩
        · rw [if_neg ha]; exact decode_high s pos hp (by rw [byteAt_eq hp]; omega)
      generalize (Utf8.decode s pos).1 = r at *
      generalize (Utf8.decode s pos).2 = q at *
      have hno := fun h => identB_no (s := s) hp h
      generalize hc : byteAt s pos = c at *
      have HOK := Lib.hid hok
      have HNO := Lib.hid hno
      have HW := Lib.hid hwd
      clear hok hno hwd
      by_cases b1 : (97 : Int) ≤ (r : Int) <;> by_cases b2 : (r : Int) ≤ 122 <;> by_cases b3 : (48 : Int) ≤ (r : Int) <;> by_cases b4 : (r : Int) ≤ 57 <;> by_cases b5 : (pos : Int) = 0 <;> go_wp2
      all_goals first
        | (go_ret
           refine ⟨ret_bool (HNO.out ?_).symm, (by repeat (first | exact Below.refl _ _ | refine Below.drew ?_ | refine Below.alloc ?_ (by first | exact Nat.le_refl _ | (simp; done) | (simp; omega) | omega) _ | refine Below.more ?_ (by first | exact Nat.le_refl _ | (simp; done) | (simp; omega) | omega) _ _ | refine Below.setCell ?_ (by first | exact Nat.le_refl _ | (simp; done) | (simp; omega) | omega) _ | assumption))⟩
           have := HW.out
           unfold idOk
           split at this <;> omega)
        | (refine ⟨⟨pos + q, rfl, fun k hk hks => ?_⟩, ?_⟩
           · have := HW.out
             rcases Nat.lt_or_ge k pos with h | h
             · exact HOK.out k h hks
             · split at this
               · obtain rfl : k = pos := by omega
                 rw [hc]; unfold idOk; omega
               · omega
           · have := HW.out
             simp
             split at this <;> omega)
    · have hnx : ∀ ty, (Instr.next (.pointer (some ⟨w.heap.size, 0, none⟩)) true ty).run Tryd.prog (w.iter s pos) = _ := fun ty => run_next_end w s pos ty hp
      have HE := Lib.hid (identB_all (s := s) fun k hk => hok k (by omega) hk)
      clear hok
      go_wp2
      all_goals (go_ret; refine ⟨ret_bool ?_, (by repeat (first | exact Below.refl _ _ | refine Below.drew ?_ | refine Below.alloc ?_ (by first | exact Nat.le_refl _ | (simp; done) | (simp; omega) | omega) _ | refine Below.more ?_ (by first | exact Nat.le_refl _ | (simp; done) | (simp; omega) | omega) _ _ | refine Below.setCell ?_ (by first | exact Nat.le_refl _ | (simp; done) | (simp; omega) | omega) _ | assumption))⟩; rw [HE.out]; symm; simp [inB]; try omega)
set_option maxRecDepth 100000 in
set_option maxHeartbeats 3000000 in
theorem spec_IsIdentifier_c (s : ByteArray) (w : World) (hs : s.size ≤ 9223372036854775806) :
    Calls Tryd.prog 103 #[.string s] w fun e w' => e = .returned (.bool (identB s)) ∧ Below w.heap.size w w' := by
  go_enter Tryd.func103, Tryd.ntmps103
  go_wp2
  go_loopw [3] (fun i w' => ∃ k : Nat, i = .int .i64 k ∧ k ≤ s.size ∧ w' = w ∧ (∀ j, j < k → j < s.size → idOk (byteAt s j) j)) (fun i _ => s.size - (intOf i).toNat)
  case atStart => exact ⟨0, rfl, by omega, rfl, by omega⟩
  case round =>
    obtain ⟨k, rfl, hk, rfl, hok⟩ := hrel
    by_cases hp : k < s.size
    · have hk1 : (k : Int) < (s.size : Int) := by omega
      have ix : ∀ (w : World), (Instr.index 9 (.string s) (.int .i64 k)).run Tryd.prog w = .ok (.int .u8 (byteAt s k)) w := fun w => by
        rw [run_index_string w _ s .i64 k Tryd.underlying9, dif_pos ⟨by omega, by omega⟩]
        simp only [Int.toNat_natCast, byteAt_eq hp]
      have hno := fun h => identB_no (s := s) hp h
      generalize hc : byteAt s k = c at *
      have HOK := Lib.hid hok
      have HNO := Lib.hid hno
      clear hok hno
      by_cases b1 : (97 : Int) ≤ (c : Int) <;> by_cases b2 : (c : Int) ≤ 122 <;> by_cases b3 : (c : Int) < 48 <;> by_cases b4 : (57 : Int) < (c : Int) <;> cases b5 : ((k : Int) == 0) <;> go_wp2
      all_goals first
        | (go_ret
           refine ⟨ret_bool (HNO.out ?_).symm, (by repeat (first | exact Below.refl _ _ | refine Below.drew ?_ | refine Below.alloc ?_ (by first | exact Nat.le_refl _ | (simp; done) | (simp; omega) | omega) _ | refine Below.more ?_ (by first | exact Nat.le_refl _ | (simp; done) | (simp; omega) | omega) _ _ | refine Below.setCell ?_ (by first | exact Nat.le_refl _ | (simp; done) | (simp; omega) | omega) _ | assumption))⟩
           unfold idOk
           simp only [beq_iff_eq, beq_eq_false_iff_ne] at b5
           omega)
        | (refine ⟨⟨k + 1, (by first | rfl | (simp; done) | (simp; omega)), by omega, (by first | rfl | trivial), fun j hj hjs => ?_⟩, by (try simp only [intOf]); omega⟩
           rcases Nat.lt_or_ge j k with h | h
           · exact HOK.out j h hjs
           · obtain rfl : j = k := by omega
             rw [hc]; unfold idOk
             simp only [beq_iff_eq, beq_eq_false_iff_ne] at b5
             omega)
    · have hk1 : ¬ (k : Int) < (s.size : Int) := by omega
      have HE := Lib.hid (identB_all (s := s) fun j hj => hok j (by omega) hj)
      clear hok
      go_wp2_with (go_at_call 52; refine (l01In_c _ _ _ _).mono ?_; rintro e w' ⟨rfl, rfl⟩)
      all_goals (go_ret; refine ⟨ret_bool ?_, (by repeat (first | exact Below.refl _ _ | refine Below.drew ?_ | refine Below.alloc ?_ (by first | exact Nat.le_refl _ | (simp; done) | (simp; omega) | omega) _ | refine Below.more ?_ (by first | exact Nat.le_refl _ | (simp; done) | (simp; omega) | omega) _ _ | refine Below.setCell ?_ (by first | exact Nat.le_refl _ | (simp; done) | (simp; omega) | omega) _ | assumption))⟩; rw [HE.out])
end Go.Proofs.YtdkjiafdfenbkaaDoor
