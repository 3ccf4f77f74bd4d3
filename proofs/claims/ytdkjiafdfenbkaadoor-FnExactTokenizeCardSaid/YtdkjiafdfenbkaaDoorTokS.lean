/- The reference's scan walked: numbers, names, none. -/
import Derived.Test.YtdkjiafdfenbkaaDoorTokD
namespace Go.Proofs.YtdkjiafdfenbkaaDoor
open Go Go.RowKit
set_option linter.unusedVariables false
set_option maxRecDepth 100000 in
set_option maxHeartbeats 4000000 in
theorem l12Scan_dig (t : ByteArray) (a : Nat) (w : World) (ha : a < t.size) (ht : t.size ≤ 2000) (hd : digB (byteAt t a) = true) :
    Calls Tryd.prog 58 #[.string t, .int .i64 (a : Int)] w (ScnE t a w) := by
  have ix : ∀ (w : World), (Instr.index 9 (.string t) (.int .i64 (a : Int))).run Tryd.prog w = .ok (.int .u8 (byteAt t a)) w := fun w => by
    rw [run_index_string w _ t .i64 _ Tryd.underlying9, dif_pos ⟨by omega, by omega⟩]
    simp only [Int.toNat_natCast, byteAt_eq ha]
  have HD := Lib.hid (fun W => hd ▸ l12Digit_c (byteAt t a) W)
  have HN := Lib.hid (fun W => l12Number_c t a W ha ht)
  have HS := Lib.hid (fun E v ok hn => scanS_dig (t := t) (a := a) hd (E := E) (v := v) (ok := ok) hn)
  clear hd
  generalize byteAt t a = c at *
  go_enter Tryd.func58, Tryd.ntmps58
  go_wp2_with fail
  refine (HD.out _).mono ?_
  rintro e w' ⟨rfl, rfl⟩
  go_wp2_with fail
  refine (HN.out _).mono ?_
  rintro e wn ⟨E, v, ok, rfl, hbn, haE, hEt, hn⟩
  obtain ⟨X, nX, rfl⟩ := Below.ext hbn
  have HE := Lib.hid (HS.out E v ok hn)
  have HZ := Lib.hid (ext_size haE hEt)
  have sl1 : ∀ W : World, (Instr.slice 9 (.string t) (some (.int .i64 (a : Int))) (some (.int .i64 (E : Int))) none).run Tryd.prog W = .ok (.string (t.extract a E)) W := fun W => by
    rw [run_slice_string W _ t .i64 .i64 a E Tryd.underlying9 (by omega) (by omega) (by omega)]; rfl
  clear hbn hn
  generalize t.extract a E = x at *
  go_wp2
  exact bodyPost_ret (v := .tuple #[.agg #[.int .i64 1, .string x, .int .i64 (v : Int), .int .i64 (a : Int)], .int .i64 (E : Int), .bool ok]) (by simp [results, Tryd.results58, go_sem]) rfl ⟨⟨1, x, v, a⟩, E, ok, rfl, (by repeat (first | exact Below.refl _ _ | refine Below.drew ?_ | refine Below.alloc ?_ (by first | exact Nat.le_refl _ | (simp; done) | (simp; omega) | omega) _ | refine Below.more ?_ (by first | exact Nat.le_refl _ | (simp; done) | (simp; omega) | omega) _ _ | refine Below.setCell ?_ (by first | exact Nat.le_refl _ | (simp; done) | (simp; omega) | omega) _ | assumption)), HE.out, fun _ => HZ.out⟩
set_option maxRecDepth 100000 in
set_option maxHeartbeats 4000000 in
theorem l12Scan_let (t : ByteArray) (a : Nat) (w : World) (ha : a < t.size) (ht : t.size ≤ 2000) (hd : digB (byteAt t a) = false) (hl : letB (byteAt t a) = true) :
    Calls Tryd.prog 58 #[.string t, .int .i64 (a : Int)] w (ScnE t a w) := by
  have ix0 : ∀ (j : Nat), j < t.size → ∀ (w : World), (Instr.index 9 (.string t) (.int .i64 (j : Int))).run Tryd.prog w = .ok (.int .u8 (byteAt t j)) w := fun j hj w => by
    rw [run_index_string w _ t .i64 _ Tryd.underlying9, dif_pos ⟨by omega, by omega⟩]
    simp only [Int.toNat_natCast, byteAt_eq hj]
  have ix := ix0 a ha
  have IX := Lib.hid ix0
  have HD := Lib.hid (fun W => hd ▸ l12Digit_c (byteAt t a) W)
  have HL := Lib.hid (fun W => hl ▸ l12Letter_c (byteAt t a) W)
  have HS := Lib.hid (fun k I hs hI => scanS_let (t := t) (a := a) (k := k) (I := I) hd hl hs hI)
  clear hd hl ix0
  generalize byteAt t a = c at *
  go_enter Tryd.func58, Tryd.ntmps58
  go_wp2_with fail
  refine (HD.out _).mono ?_
  rintro e w' ⟨rfl, rfl⟩
  go_wp2_with fail
  refine (HL.out _).mono ?_
  rintro e w' ⟨rfl, rfl⟩
  go_wp2
  clear ix HD HL
  go_loopw [11] (fun i wr => ∃ I k : Nat, i = .int .i64 I ∧ (∃ X d, wr = more (w.alloc (.cells #[.int .i64 0, .string ByteArray.empty, .int .i64 0, .int .i64 0] 87)) X d) ∧ Hid (I = a + k ∧ span alnB t a = k + span alnB t I) ∧ I ≤ t.size ∧ a ≤ I) (fun i _ => t.size - (intOf i).toNat)
  case atStart => exact ⟨a, 0, rfl, ⟨#[], _, more_self' _⟩, Lib.hid ⟨rfl, by simp⟩, by omega, by omega⟩
  case round =>
    obtain ⟨I, k, rfl, ⟨X, d, rfl⟩, HI, hIs, haI⟩ := hrel
    have hex : scanT t a = (if decide (k ≤ 8) then some ⟨2, t.extract a I, 0, a⟩ else none) ∨ ¬ span alnB t a = k := by
      by_cases hs : span alnB t a = k
      · exact .inl (HS.out k I hs HI.out.1)
      · exact .inr hs
    have HEX := Lib.hid hex
    have HZ := Lib.hid (ext_size haI hIs)
    have sl1 : ∀ W : World, (Instr.slice 9 (.string t) (some (.int .i64 (a : Int))) (some (.int .i64 (I : Int))) none).run Tryd.prog W = .ok (.string (t.extract a I)) W := fun W => by
      rw [run_slice_string W _ t .i64 .i64 a I Tryd.underlying9 (by omega) (by omega) (by omega)]; rfl
    have hwk : IntKind.i64.wrap ((I : Int) - (a : Int)) = (k : Int) := by have := HI.out.1; rw [IntWalk.i64_in _ (by omega)]; omega
    have HK8 := Lib.hid (show decide ((k : Int) ≤ 8) = decide (k ≤ 8) from decide_eq_decide.2 (by omega))
    clear hex
    generalize t.extract a I = x at *
    by_cases hlt : I < t.size
    · have hlt' : (I : Int) < (t.size : Int) := by omega
      have ix := IX.out I hlt
      have HC1 := Lib.hid (fun W => l12Letter_c (byteAt t I) W)
      have HC2 := Lib.hid (fun W => l12Digit_c (byteAt t I) W)
      have HNX := Lib.hid (show alnB (byteAt t I) = true → I + 1 = a + (k + 1) ∧ span alnB t a = k + 1 + span alnB t (I + 1) from fun h => ⟨by have := HI.out.1; omega, by have := HI.out.2; rw [span_yes hlt h] at this; omega⟩)
      have HNO := Lib.hid (show alnB (byteAt t I) = false → span alnB t a = k from fun h => by have := HI.out.2; rw [span_no h] at this; exact this)
      have HAL := Lib.hid (show alnB (byteAt t I) = (letB (byteAt t I) || digB (byteAt t I)) from rfl)
      generalize byteAt t I = c at *
      cases h1 : letB c
      · cases h2 : digB c
        · rw [h1] at HC1 HAL
          rw [h2] at HC2 HAL
          have HE := Lib.hid (HEX.out.resolve_right (fun q => q (HNO.out HAL.out)))
          clear h1 h2 HNX HNO HEX
          go_wp2_with (first | (go_at_call 93; refine (HC1.out _).mono ?_; rintro e w' ⟨rfl, rfl⟩) | (go_at_call 91; refine (HC2.out _).mono ?_; rintro e w' ⟨rfl, rfl⟩))
          rw [HK8.out]
          exact bodyPost_ret (v := .tuple #[.agg #[.int .i64 2, .string x, .int .i64 0, .int .i64 (a : Int)], .int .i64 (I : Int), .bool (decide (k ≤ 8))]) (by simp [results, Tryd.results58, go_sem]) rfl ⟨⟨2, x, 0, a⟩, I, _, rfl, (by repeat (first | exact Below.refl _ _ | refine Below.drew ?_ | refine Below.alloc ?_ (by first | exact Nat.le_refl _ | (simp; done) | (simp; omega) | omega) _ | refine Below.more ?_ (by first | exact Nat.le_refl _ | (simp; done) | (simp; omega) | omega) _ _ | refine Below.setCell ?_ (by first | exact Nat.le_refl _ | (simp; done) | (simp; omega) | omega) _ | assumption)), HE.out, fun _ => HZ.out⟩
        · rw [h1] at HC1 HAL
          rw [h2] at HC2 HAL
          have HN2 := Lib.hid (HNX.out HAL.out)
          clear h1 h2 HNX HNO HEX
          go_wp2_with (first | (go_at_call 93; refine (HC1.out _).mono ?_; rintro e w' ⟨rfl, rfl⟩) | (go_at_call 91; refine (HC2.out _).mono ?_; rintro e w' ⟨rfl, rfl⟩))
          exact ⟨⟨I + 1, k + 1, by first | rfl | go_num, ⟨X, d, rfl⟩, Lib.hid HN2.out, by omega, by omega⟩, by simp only [intOf]; omega⟩
      · rw [h1] at HC1 HAL
        have HN2 := Lib.hid (HNX.out HAL.out)
        clear h1 HNX HNO HEX
        go_wp2_with (first | (go_at_call 93; refine (HC1.out _).mono ?_; rintro e w' ⟨rfl, rfl⟩) | (go_at_call 91; refine (HC2.out _).mono ?_; rintro e w' ⟨rfl, rfl⟩))
        exact ⟨⟨I + 1, k + 1, by first | rfl | go_num, ⟨X, d, rfl⟩, Lib.hid HN2.out, by omega, by omega⟩, by simp only [intOf]; omega⟩
    · have hlt' : ¬ (I : Int) < (t.size : Int) := by omega
      have HE := Lib.hid (HEX.out.resolve_right (fun q => q (by have := HI.out.2; rw [span_end (i := I) (by omega)] at this; exact this)))
      clear HEX
      go_wp2
      rw [HK8.out]
      exact bodyPost_ret (v := .tuple #[.agg #[.int .i64 2, .string x, .int .i64 0, .int .i64 (a : Int)], .int .i64 (I : Int), .bool (decide (k ≤ 8))]) (by simp [results, Tryd.results58, go_sem]) rfl ⟨⟨2, x, 0, a⟩, I, _, rfl, (by repeat (first | exact Below.refl _ _ | refine Below.drew ?_ | refine Below.alloc ?_ (by first | exact Nat.le_refl _ | (simp; done) | (simp; omega) | omega) _ | refine Below.more ?_ (by first | exact Nat.le_refl _ | (simp; done) | (simp; omega) | omega) _ _ | refine Below.setCell ?_ (by first | exact Nat.le_refl _ | (simp; done) | (simp; omega) | omega) _ | assumption)), HE.out, fun _ => HZ.out⟩
set_option maxRecDepth 100000 in
set_option maxHeartbeats 4000000 in
theorem l12Scan_no (t : ByteArray) (a : Nat) (w : World) (ha : a < t.size) (ht : t.size ≤ 2000) (hd : digB (byteAt t a) = false) (hl : letB (byteAt t a) = false) (hs : symB (byteAt t a) = false) :
    Calls Tryd.prog 58 #[.string t, .int .i64 (a : Int)] w (ScnE t a w) := by
  have ix : ∀ (w : World), (Instr.index 9 (.string t) (.int .i64 (a : Int))).run Tryd.prog w = .ok (.int .u8 (byteAt t a)) w := fun w => by
    rw [run_index_string w _ t .i64 _ Tryd.underlying9, dif_pos ⟨by omega, by omega⟩]
    simp only [Int.toNat_natCast, byteAt_eq ha]
  have HD := Lib.hid (fun W => hd ▸ l12Digit_c (byteAt t a) W)
  have HL := Lib.hid (fun W => hl ▸ l12Letter_c (byteAt t a) W)
  have HS := Lib.hid (scanS_no hd hl hs)
  obtain ⟨h1, h2, h3, h4, h5, h6, h7, h8, h9⟩ := sym_not hs
  clear hd hl hs
  generalize byteAt t a = c at *
  have g1 : ((43 : Int) == (c : Int)) = false := by rw [beq_eq_false_iff_ne]; omega
  have g2 : ((45 : Int) == (c : Int)) = false := by rw [beq_eq_false_iff_ne]; omega
  have g3 : ((42 : Int) == (c : Int)) = false := by rw [beq_eq_false_iff_ne]; omega
  have g4 : ((47 : Int) == (c : Int)) = false := by rw [beq_eq_false_iff_ne]; omega
  have g5 : ((40 : Int) == (c : Int)) = false := by rw [beq_eq_false_iff_ne]; omega
  have g6 : ((41 : Int) == (c : Int)) = false := by rw [beq_eq_false_iff_ne]; omega
  have g7 : ((44 : Int) == (c : Int)) = false := by rw [beq_eq_false_iff_ne]; omega
  have g8 : ((61 : Int) == (c : Int)) = false := by rw [beq_eq_false_iff_ne]; omega
  have g9 : ((59 : Int) == (c : Int)) = false := by rw [beq_eq_false_iff_ne]; omega
  have k1 : ¬ (43 : Int) = (c : Int) := by omega
  have k2 : ¬ (45 : Int) = (c : Int) := by omega
  have k3 : ¬ (42 : Int) = (c : Int) := by omega
  have k4 : ¬ (47 : Int) = (c : Int) := by omega
  have k5 : ¬ (40 : Int) = (c : Int) := by omega
  have k6 : ¬ (41 : Int) = (c : Int) := by omega
  have k7 : ¬ (44 : Int) = (c : Int) := by omega
  have k8 : ¬ (61 : Int) = (c : Int) := by omega
  have k9 : ¬ (59 : Int) = (c : Int) := by omega
  clear h1 h2 h3 h4 h5 h6 h7 h8 h9
  obtain ⟨W1, hcv, hblo, hko, hsz, hcl⟩ := conv_mark (w.heap.size + 1) 9 9 #[.int .u8 43, .int .u8 45, .int .u8 42, .int .u8 47, .int .u8 40, .int .u8 41, .int .u8 44, .int .u8 61, .int .u8 59] ((w.alloc (.cells #[.int .i64 0, .string ⟨#[]⟩, .int .i64 0, .int .i64 0] 87)).alloc (.cells #[.int .u8 43, .int .u8 45, .int .u8 42, .int .u8 47, .int .u8 40, .int .u8 41, .int .u8 44, .int .u8 61, .int .u8 59] 5)) (heap_at_new (by simp))
  have HBW := Lib.hid (show Below w.heap.size w W1 from (show Below w.heap.size w _ from (by repeat (first | exact Below.refl _ _ | refine Below.drew ?_ | refine Below.alloc ?_ (by first | exact Nat.le_refl _ | (simp; done) | (simp; omega) | omega) _ | refine Below.more ?_ (by first | exact Nat.le_refl _ | (simp; done) | (simp; omega) | omega) _ _ | refine Below.setCell ?_ (by first | exact Nat.le_refl _ | (simp; done) | (simp; omega) | omega) _ | assumption))).trans (hblo w.heap.size (by omega)))
  have hform : putB W1 w.heap.size [.int .i64 0, .string ⟨#[]⟩, .int .i64 0, .int .i64 0] 87 = W1 := putB_self (by rw [hko _ (by omega), Below.block (Below.alloc (Below.refl _ _) (Nat.le_refl _) _) _ (by simp)]; exact heap_at_new rfl)
  have hlw : w.heap.size < W1.heap.size := by rw [hsz]; simp; try omega
  have hlw1 : w.heap.size + 1 < W1.heap.size := by rw [hsz]; simp; try omega
  have hne1 : ¬ w.heap.size + 1 = w.heap.size := by omega
  rw [← hform] at hcv
  have b0 : W1.cell? ⟨w.heap.size + 1, 0, none⟩ = some (.int .u8 43) := hcl 0
  have b1 : W1.cell? ⟨w.heap.size + 1, 1, none⟩ = some (.int .u8 45) := hcl 1
  have b2 : W1.cell? ⟨w.heap.size + 1, 2, none⟩ = some (.int .u8 42) := hcl 2
  have b3 : W1.cell? ⟨w.heap.size + 1, 3, none⟩ = some (.int .u8 47) := hcl 3
  have b4 : W1.cell? ⟨w.heap.size + 1, 4, none⟩ = some (.int .u8 40) := hcl 4
  have b5 : W1.cell? ⟨w.heap.size + 1, 5, none⟩ = some (.int .u8 41) := hcl 5
  have b6 : W1.cell? ⟨w.heap.size + 1, 6, none⟩ = some (.int .u8 44) := hcl 6
  have b7 : W1.cell? ⟨w.heap.size + 1, 7, none⟩ = some (.int .u8 61) := hcl 7
  have b8 : W1.cell? ⟨w.heap.size + 1, 8, none⟩ = some (.int .u8 59) := hcl 8
  clear hblo hko hsz hcl hform
  go_enter Tryd.func58, Tryd.ntmps58
  go_wp2_with fail
  refine (HD.out _).mono ?_
  rintro e w' ⟨rfl, rfl⟩
  go_wp2_with fail
  refine (HL.out _).mono ?_
  rintro e w' ⟨rfl, rfl⟩
  go_wp2
  go_rounds 10
  all_goals exact bodyPost_ret (v := .tuple #[.agg #[.int .i64 0, .string ByteArray.empty, .int .i64 0, .int .i64 0], .int .i64 (a : Int), .bool false]) (by simp [results, Tryd.results58, go_sem, hlw]; rfl) rfl ⟨⟨0, ByteArray.empty, 0, 0⟩, a, false, rfl, HBW.out.trans (Below.putB (Nat.le_refl _)), HS.out, fun h => by cases h⟩
end Go.Proofs.YtdkjiafdfenbkaaDoor
