/- Contracts of SplitAny at a comma. -/
import Derived.Test.YtdkjiafdfenbkaaDoorSString
import Derived.Test.YtdkjiafdfenbkaaDoorAppend
import Derived.Test.YtdkjiafdfenbkaaDoorParseIntS
import Derived.Test.YtdkjiafdfenbkaaDoorShelf
namespace Go.Proofs.YtdkjiafdfenbkaaDoor
open Go Go.RowKit
set_option linter.unusedVariables false
/-- The parts ahead of place k, and where the next begins. -/
def splitSt (t : ByteArray) : Nat → List ByteArray × Nat
  | 0 => ([], 0)
  | k + 1 => if byteAt t k = 44 then ((splitSt t k).1 ++ [t.extract (splitSt t k).2 k], k + 1) else splitSt t k
theorem splitSt_bd (t : ByteArray) : ∀ k, (splitSt t k).2 ≤ k ∧ (splitSt t k).1.length ≤ k
  | 0 => ⟨Nat.le_refl _, Nat.le_refl _⟩
  | k + 1 => by
    have ih := splitSt_bd t k
    unfold splitSt
    split
    · exact ⟨Nat.le_refl _, by simp; exact ih.2⟩
    · exact ⟨by omega, by omega⟩
def parts (t : ByteArray) : List ByteArray := (splitSt t t.size).1 ++ [t.extract (splitSt t t.size).2 t.size]
theorem parts_len (t : ByteArray) : (parts t).length ≤ t.size + 1 := by
  have := (splitSt_bd t t.size).2
  unfold parts; simp; exact this
theorem stringsAt {ts : List ByteArray} : ∀ i, i < ts.length → ∀ j, j < 1 → (ts.map Value.string)[i * 1 + j]? = (stringAt ts i)[j]? := by
  intro i hi j hj
  obtain rfl : j = 0 := by omega
  rw [Nat.mul_one, Nat.add_zero]
  simp [stringAt, hi]
theorem ix_comma {c : Nat} (hc : c < 256) : Lib.indexByte (⟨#[44]⟩ : ByteArray).data.toList (Int.toNat (c : Int)).toUInt8 = if c = 44 then 0 else -1 := by
  show (if (44 : UInt8) == (c : Nat).toUInt8 then 0 else if ((-1 : Int) == -1) = true then -1 else -1 + 1) = _
  by_cases h : c = 44
  · subst h; rfl
  · rw [if_neg h, if_neg]
    · rfl
    · intro h2
      have h3 := congrArg UInt8.toNat (eq_of_beq h2)
      have h4 : (c : Nat).toUInt8.toNat = c % 256 := rfl
      rw [h4] at h3
      exact h (by have : (44 : UInt8).toNat = 44 := rfl; omega)
set_option maxRecDepth 100000 in
set_option maxHeartbeats 2000000 in
theorem impl_SplitAny_k (t : ByteArray) (w : World) (ht : t.size ≤ 1048576) :
    Calls Tryd.prog 79 #[.string t, .string ⟨#[44]⟩] w (GivesC w 1 (parts t).length (stringAt (parts t))) := by
  obtain ⟨i0, hi, hz0, hz1, hz2⟩ := info_parts info_String
  go_enter Tryd.func79, Tryd.ntmps79
  go_wp2
  go_loopw [5, 6, 7] (fun out st i wr => ∃ (k d : Nat) (X : Array Obj), k ≤ t.size ∧ i = .int .i64 k ∧ st = .int .i64 (splitSt t k).2 ∧ wr = more w X d ∧ (more w X d).ownsRow w.heap.size 9 1 out (splitSt t k).1.length ((splitSt t k).1.map .string)) (fun _ _ i _ => t.size - (intOf i).toNat)
  case atStart =>
    obtain ⟨X, d, e⟩ := Below.ext (w := w) (w' := w.alloc (.cells #[] 9)) (by repeat (first | exact Below.refl _ _ | refine Below.drew ?_ | refine Below.alloc ?_ (by first | exact Nat.le_refl _ | (simp; done) | (simp; omega) | omega) _ | refine Below.more ?_ (by first | exact Nat.le_refl _ | (simp; done) | (simp; omega) | omega) _ _ | refine Below.setCell ?_ (by first | exact Nat.le_refl _ | (simp; done) | (simp; omega) | omega) _ | assumption))
    refine ⟨0, d, X, Nat.zero_le _, rfl, rfl, e, ?_⟩
    rw [← e]
    simpa [splitSt] using World.ownsRow_made (size := 1) w #[] 0 (Nat.le_refl _) (by decide) (by simp)
  case round =>
    obtain ⟨k, d, X, hk, rfl, rfl, rfl, hown⟩ := hrel
    have hbd := splitSt_bd t k
    by_cases hlt : k < t.size
    · have hk1 : (k : Int) < (t.size : Int) := by omega
      have ix : ∀ (w : World), (Instr.index 9 (.string t) (.int .i64 k)).run Tryd.prog w = .ok (.int .u8 (byteAt t k)) w := fun w => by
        rw [run_index_string w _ t .i64 k Tryd.underlying9, dif_pos ⟨by omega, by omega⟩]
        simp only [Int.toNat_natCast, byteAt_eq hlt]
      have hcl := byteAt_lt t k
      have hstep : splitSt t (k + 1) = if byteAt t k = 44 then ((splitSt t k).1 ++ [t.extract (splitSt t k).2 k], k + 1) else splitSt t k := rfl
      have HI := Lib.hid (fun W => Tryd.strings_IndexByte ⟨#[44]⟩ (byteAt t k : Int) W)
      rw [ix_comma hcl] at HI
      generalize byteAt t k = c at *
      by_cases hc : c = 44
      · rw [if_pos hc] at HI hstep
        have HST := Lib.hid hstep
        have HO := Lib.hid hown
        generalize hs : (splitSt t k).2 = s at *
        generalize hp : (splitSt t k).1 = P at *
        clear hstep hown hc hcl hs hp
        have hs1 : (s : Int) ≤ (k : Int) := by omega
        have hs2 : (k : Int) ≤ (t.size : Int) := by omega
        have sl : ∀ W : World, (Instr.slice 9 (.string t) (some (.int .i64 s)) (some (.int .i64 k)) none).run Tryd.prog W = .ok (.string (t.extract s k)) W := fun W => by
          rw [run_slice_string W _ t .i64 .i64 s k Tryd.underlying9 (by omega) hs1 hs2]; rfl
        generalize t.extract s k = x at *
        go_wp2_with (first | (go_at_call 117; refine (HI.out _).mono ?_; rintro e w' ⟨rfl, rfl⟩) | (at_builtin; go_loud (refine wpList_append_more w ?b0 rfl _ _ 116 rfl 9 i0 _ 1 16 Tryd.underlying116 hi hz0 hz1 hz2 rfl (by decide) _ _ _ rfl (HO.out.alloc _) _ 1 1 [.string x] rfl rfl ?b2 ?b3 ?b4 ?b5 ?_)))
        case b0 => exact (by repeat (first | exact Below.refl _ _ | refine Below.drew ?_ | refine Below.alloc ?_ (by first | exact Nat.le_refl _ | (simp; done) | (simp; omega) | omega) _ | refine Below.more ?_ (by first | exact Nat.le_refl _ | (simp; done) | (simp; omega) | omega) _ _ | refine Below.setCell ?_ (by first | exact Nat.le_refl _ | (simp; done) | (simp; omega) | omega) _ | assumption))
        case b2 =>
          intro j u hu
          match j, hu with
          | 0, hu =>
            obtain rfl : Value.string x = u := by simpa using hu
            simp [go_sem]
          | j + 1, hu => simp at hu
        case b3 =>
          intro u hu
          obtain rfl : u = Value.string x := by simpa using hu
          rfl
        case b4 => simp only [maxLen]; omega
        case b5 => omega
        intro v' X' d' hown' hnn
        have HO' := Lib.hid hown'
        clear hown' hnn
        go_wp2
        refine ⟨⟨k + 1, d', X', by omega, rfl, by rw [HST.out]; rfl, rfl, ?_⟩, by simp only [intOf]; omega⟩
        rw [HST.out]
        simpa using HO'.out
      · rw [if_neg hc] at HI hstep
        have HST := Lib.hid hstep
        have HO := Lib.hid hown
        clear hstep hown hcl hc
        go_wp2_with (go_at_call 117; refine (HI.out _).mono ?_; rintro e w' ⟨rfl, rfl⟩)
        refine ⟨⟨k + 1, _, _, by omega, rfl, by rw [HST.out], rfl, ?_⟩, by simp only [intOf]; omega⟩
        rw [HST.out]
        exact HO.out
    · obtain rfl : k = t.size := by omega
      have hk1 : ¬ (t.size : Int) < (t.size : Int) := by omega
      have hparts : parts t = (splitSt t t.size).1 ++ [t.extract (splitSt t t.size).2 t.size] := rfl
      have HPA := Lib.hid hparts
      have HO := Lib.hid hown
      generalize hs : (splitSt t t.size).2 = s at *
      generalize hp : (splitSt t t.size).1 = P at *
      clear hparts hown hs hp
      have hs1 : (0 : Int) ≤ (s : Int) ∧ (s : Int) ≤ (t.size : Int) := by omega
      have sl : ∀ W : World, (Instr.slice 9 (.string t) (some (.int .i64 s)) none none).run Tryd.prog W = .ok (.string (t.extract s t.size)) W := fun W => by
        rw [run_slice_string_from_if W _ t .i64 s Tryd.underlying9, if_pos hs1]; rfl
      generalize t.extract s t.size = x at *
      go_wp2_with (at_builtin; go_loud (refine wpList_append_more w ?b0 rfl _ _ 116 rfl 9 i0 _ 1 16 Tryd.underlying116 hi hz0 hz1 hz2 rfl (by decide) _ _ _ rfl (HO.out.alloc _) _ 1 1 [.string x] rfl rfl ?b2 ?b3 ?b4 ?b5 ?_))
      case b0 => exact (by repeat (first | exact Below.refl _ _ | refine Below.drew ?_ | refine Below.alloc ?_ (by first | exact Nat.le_refl _ | (simp; done) | (simp; omega) | omega) _ | refine Below.more ?_ (by first | exact Nat.le_refl _ | (simp; done) | (simp; omega) | omega) _ _ | refine Below.setCell ?_ (by first | exact Nat.le_refl _ | (simp; done) | (simp; omega) | omega) _ | assumption))
      case b3 => rfl
      case b4 => simp only [maxLen]; omega
      case b5 => omega
      intro v' X' d' hown' hnn
      have HO' := Lib.hid hown'
      clear hown' hnn
      go_wp2
      go_ret
      rw [HPA.out]
      have ho := HO'.out
      rw [show P.map Value.string ++ [Value.string x] = (P ++ [x]).map Value.string by simp, show P.length + 1 = (P ++ [x]).length by simp] at ho
      obtain ⟨a', cap', rfl, ho, hcc⟩ := ow_of_ownsRow_cap ho stringsAt
      exact ⟨a', cap', rfl, ho, (by repeat (first | exact Below.refl _ _ | refine Below.drew ?_ | refine Below.alloc ?_ (by first | exact Nat.le_refl _ | (simp; done) | (simp; omega) | omega) _ | refine Below.more ?_ (by first | exact Nat.le_refl _ | (simp; done) | (simp; omega) | omega) _ _ | refine Below.setCell ?_ (by first | exact Nat.le_refl _ | (simp; done) | (simp; omega) | omega) _ | assumption)), hcc⟩
set_option maxRecDepth 100000 in
set_option maxHeartbeats 2000000 in
theorem spec_SplitAny_k (t : ByteArray) (w : World) (ht : t.size ≤ 1048576) :
    Calls Tryd.prog 77 #[.string t, .string ⟨#[44]⟩] w (GivesC w 1 (parts t).length (stringAt (parts t))) := by
  obtain ⟨i0, hi, hz0, hz1, hz2⟩ := info_parts info_String
  go_enter Tryd.func77, Tryd.ntmps77
  go_wp2
  go_loopw [5, 6, 7] (fun out st i wr => ∃ k : Nat, k ≤ t.size ∧ i = .int .i64 k ∧ st = .int .i64 (splitSt t k).2 ∧ Below w.heap.size w wr ∧ wr.ownsRow w.heap.size 9 1 out (splitSt t k).1.length ((splitSt t k).1.map .string)) (fun _ _ i _ => t.size - (intOf i).toNat)
  case atStart =>
    refine ⟨0, Nat.zero_le _, rfl, rfl, (by repeat (first | exact Below.refl _ _ | refine Below.drew ?_ | refine Below.alloc ?_ (by first | exact Nat.le_refl _ | (simp; done) | (simp; omega) | omega) _ | refine Below.more ?_ (by first | exact Nat.le_refl _ | (simp; done) | (simp; omega) | omega) _ _ | refine Below.setCell ?_ (by first | exact Nat.le_refl _ | (simp; done) | (simp; omega) | omega) _ | assumption)), ?_⟩
    simpa [splitSt] using World.ownsRow_made (size := 1) w #[] 0 (Nat.le_refl _) (by decide) (by simp)
  case round =>
    obtain ⟨k, hk, rfl, rfl, hb, hown⟩ := hrel
    have HB := Lib.hid hb
    clear hb
    have hbd := splitSt_bd t k
    by_cases hlt : k < t.size
    · have hk1 : (k : Int) < (t.size : Int) := by omega
      have ix : ∀ (w : World), (Instr.index 9 (.string t) (.int .i64 k)).run Tryd.prog w = .ok (.int .u8 (byteAt t k)) w := fun w => by
        rw [run_index_string w _ t .i64 k Tryd.underlying9, dif_pos ⟨by omega, by omega⟩]
        simp only [Int.toNat_natCast, byteAt_eq hlt]
      have hcl := byteAt_lt t k
      have hstep : splitSt t (k + 1) = if byteAt t k = 44 then ((splitSt t k).1 ++ [t.extract (splitSt t k).2 k], k + 1) else splitSt t k := rfl
      have ixs : ∀ (w : World), (Instr.index 9 (.string ⟨#[44]⟩) (.int .i64 0)).run Tryd.prog w = .ok (.int .u8 44) w := fun w => by
        rw [run_index_string w _ _ .i64 0 Tryd.underlying9, dif_pos ⟨by decide, by decide⟩]; rfl
      generalize byteAt t k = c at *
      by_cases hc : c = 44
      · rw [if_pos hc] at hstep
        have HST := Lib.hid hstep
        have HO := Lib.hid hown
        generalize hs : (splitSt t k).2 = s at *
        generalize hp : (splitSt t k).1 = P at *
        have hcc : (c : Int) = 44 := by omega
        have ix2 : ∀ (w : World), (Instr.index 9 (.string t) (.int .i64 k)).run Tryd.prog w = .ok (.int .u8 44) w := by rw [← hcc]; exact ix
        clear hstep hown hcc hc hcl hs hp ix
        have hs1 : (s : Int) ≤ (k : Int) := by omega
        have hs2 : (k : Int) ≤ (t.size : Int) := by omega
        have sl : ∀ W : World, (Instr.slice 9 (.string t) (some (.int .i64 s)) (some (.int .i64 k)) none).run Tryd.prog W = .ok (.string (t.extract s k)) W := fun W => by
          rw [run_slice_string W _ t .i64 .i64 s k Tryd.underlying9 (by omega) hs1 hs2]; rfl
        generalize t.extract s k = x at *
        go_wp2
        refine wp_loop_rounds 2 ?_
        rw [rounds_succ]
        go_wp2
        (first | refine region_q2 (by kernel_rfl) (by kernel_rfl) ?_ | refine region_q (by kernel_rfl) (by kernel_rfl) ?_)
        repeat (first | go_big_quiet_skip | (go_big_quiet_want; go_simp; go_big_quiet_on))
        (refine wpQuiet_nil ?_; intro X nX)
        go_wp2_with (at_builtin; go_loud (refine wpList_append_more w ?b0 rfl _ _ 116 rfl 9 i0 _ 1 16 Tryd.underlying116 hi hz0 hz1 hz2 rfl (by decide) _ _ _ rfl ((own_more HO.out _ _).alloc _) _ 1 1 [.string x] rfl rfl ?b2 ?b3 ?b4 ?b5 ?_))
        case b0 => exact HB.out.trans (Below.mono (show Below wr.heap.size wr _ from (by repeat (first | exact Below.refl _ _ | refine Below.drew ?_ | refine Below.alloc ?_ (by first | exact Nat.le_refl _ | (simp; done) | (simp; omega) | omega) _ | refine Below.more ?_ (by first | exact Nat.le_refl _ | (simp; done) | (simp; omega) | omega) _ _ | refine Below.setCell ?_ (by first | exact Nat.le_refl _ | (simp; done) | (simp; omega) | omega) _ | assumption))) HB.out.size)
        case b2 =>
          intro j u hu
          match j, hu with
          | 0, hu =>
            obtain rfl : Value.string x = u := by simpa using hu
            simp [go_sem]
          | j + 1, hu => simp at hu
        case b3 =>
          intro u hu
          obtain rfl : u = Value.string x := by simpa using hu
          rfl
        case b4 => simp only [maxLen]; omega
        case b5 => omega
        intro v' X' d' hown' hnn
        have HO' := Lib.hid hown'
        clear hown' hnn
        go_wp2
        refine ⟨⟨k + 1, by omega, rfl, by rw [HST.out]; rfl, (by repeat (first | exact Below.refl _ _ | refine Below.drew ?_ | refine Below.alloc ?_ (by first | exact Nat.le_refl _ | (simp; done) | (simp; omega) | omega) _ | refine Below.more ?_ (by first | exact Nat.le_refl _ | (simp; done) | (simp; omega) | omega) _ _ | refine Below.setCell ?_ (by first | exact Nat.le_refl _ | (simp; done) | (simp; omega) | omega) _ | assumption)), ?_⟩, by simp only [intOf]; omega⟩
        rw [HST.out]
        simpa using HO'.out
      · rw [if_neg hc] at hstep
        have HST := Lib.hid hstep
        have HO := Lib.hid hown
        have hc1 : ¬ (c : Int) = 44 := by omega
        have hc2 : ((c : Int) == 44) = false := beq_eq_false_iff_ne.2 hc1
        clear hstep hown hcl
        go_wp2
        refine wp_loop_rounds 2 ?_
        rw [rounds_succ]
        go_wp2
        (first | refine region_q2 (by kernel_rfl) (by kernel_rfl) ?_ | refine region_q (by kernel_rfl) (by kernel_rfl) ?_)
        repeat (first | go_big_quiet_skip | (go_big_quiet_want; go_simp; go_big_quiet_on))
        (refine wpQuiet_nil ?_; intro X nX)
        go_wp2
        rw [rounds_succ]
        go_wp2
        refine ⟨⟨k + 1, by omega, rfl, by rw [HST.out], HB.out.trans (Below.mono (show Below wr.heap.size wr _ from (by repeat (first | exact Below.refl _ _ | refine Below.drew ?_ | refine Below.alloc ?_ (by first | exact Nat.le_refl _ | (simp; done) | (simp; omega) | omega) _ | refine Below.more ?_ (by first | exact Nat.le_refl _ | (simp; done) | (simp; omega) | omega) _ _ | refine Below.setCell ?_ (by first | exact Nat.le_refl _ | (simp; done) | (simp; omega) | omega) _ | assumption))) HB.out.size), ?_⟩, by simp only [intOf]; omega⟩
        rw [HST.out]
        exact own_more HO.out _ _
    · obtain rfl : k = t.size := by omega
      have hk1 : ¬ (t.size : Int) < (t.size : Int) := by omega
      have hparts : parts t = (splitSt t t.size).1 ++ [t.extract (splitSt t t.size).2 t.size] := rfl
      have HPA := Lib.hid hparts
      have HO := Lib.hid hown
      generalize hs : (splitSt t t.size).2 = s at *
      generalize hp : (splitSt t t.size).1 = P at *
      clear hparts hown hs hp
      have hs1 : (0 : Int) ≤ (s : Int) ∧ (s : Int) ≤ (t.size : Int) := by omega
      have sl : ∀ W : World, (Instr.slice 9 (.string t) (some (.int .i64 s)) none none).run Tryd.prog W = .ok (.string (t.extract s t.size)) W := fun W => by
        rw [run_slice_string_from_if W _ t .i64 s Tryd.underlying9, if_pos hs1]; rfl
      generalize t.extract s t.size = x at *
      go_wp2_with (at_builtin; go_loud (refine wpList_append_more w ?b0 rfl _ _ 116 rfl 9 i0 _ 1 16 Tryd.underlying116 hi hz0 hz1 hz2 rfl (by decide) _ _ _ rfl (HO.out.alloc _) _ 1 1 [.string x] rfl rfl ?b2 ?b3 ?b4 ?b5 ?_))
      case b0 => exact HB.out.trans (Below.mono (show Below wr.heap.size wr _ from (by repeat (first | exact Below.refl _ _ | refine Below.drew ?_ | refine Below.alloc ?_ (by first | exact Nat.le_refl _ | (simp; done) | (simp; omega) | omega) _ | refine Below.more ?_ (by first | exact Nat.le_refl _ | (simp; done) | (simp; omega) | omega) _ _ | refine Below.setCell ?_ (by first | exact Nat.le_refl _ | (simp; done) | (simp; omega) | omega) _ | assumption))) HB.out.size)
      case b3 => rfl
      case b4 => simp only [maxLen]; omega
      case b5 => omega
      intro v' X' d' hown' hnn
      have HO' := Lib.hid hown'
      clear hown' hnn
      go_wp2
      go_ret
      rw [HPA.out]
      have ho := HO'.out
      rw [show P.map Value.string ++ [Value.string x] = (P ++ [x]).map Value.string by simp, show P.length + 1 = (P ++ [x]).length by simp] at ho
      obtain ⟨a', cap', rfl, ho, hcc⟩ := ow_of_ownsRow_cap ho stringsAt
      exact ⟨a', cap', rfl, ho, (by repeat (first | exact Below.refl _ _ | refine Below.drew ?_ | refine Below.alloc ?_ (by first | exact Nat.le_refl _ | (simp; done) | (simp; omega) | omega) _ | refine Below.more ?_ (by first | exact Nat.le_refl _ | (simp; done) | (simp; omega) | omega) _ _ | refine Below.setCell ?_ (by first | exact Nat.le_refl _ | (simp; done) | (simp; omega) | omega) _ | assumption)), hcc⟩
end Go.Proofs.YtdkjiafdfenbkaaDoor
