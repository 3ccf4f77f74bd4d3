/- The reference's lexer walked: one number. -/
import Derived.Test.YtdkjiafdfenbkaaDoorScanM
import Derived.Test.YtdkjiafdfenbkaaDoorQuiet
import Derived.IntWalk
namespace Go.Proofs.YtdkjiafdfenbkaaDoor
open Go Go.RowKit
set_option linter.unusedVariables false
set_option maxRecDepth 100000 in
theorem l12Digit_c (c : Nat) (w : World) : Calls Tryd.prog 91 #[.int .u8 (c : Int)] w fun e w' => e = .returned (.bool (digB c)) ∧ w' = w := by
  have HE := Lib.hid (show digB c = decide (48 ≤ c ∧ c ≤ 57) from rfl)
  by_cases h1 : (48 : Int) ≤ (c : Int) <;> by_cases h2 : (c : Int) ≤ 57
  all_goals
    go_enter Tryd.func91, Tryd.ntmps91
    go_wp2
    go_ret
    refine ⟨ret_bool ?_, rfl⟩
    rw [HE.out]
    symm
    first | (rw [decide_eq_true_eq]; omega) | (rw [decide_eq_false_iff_not]; omega)
set_option maxRecDepth 100000 in
theorem l12Letter_c (c : Nat) (w : World) : Calls Tryd.prog 93 #[.int .u8 (c : Int)] w fun e w' => e = .returned (.bool (letB c)) ∧ w' = w := by
  have HE := Lib.hid (show letB c = decide (97 ≤ c ∧ c ≤ 122) from rfl)
  by_cases h1 : (97 : Int) ≤ (c : Int) <;> by_cases h2 : (c : Int) ≤ 122
  all_goals
    go_enter Tryd.func93, Tryd.ntmps93
    go_wp2
    go_ret
    refine ⟨ret_bool ?_, rfl⟩
    rw [HE.out]
    symm
    first | (rw [decide_eq_true_eq]; omega) | (rw [decide_eq_false_iff_not]; omega)
/-- An end, a value, and whether they are a number's. -/
def NumE (t : ByteArray) (a : Nat) (w : World) (e : Ending) (w' : World) : Prop :=
  ∃ (E v : Nat) (ok : Bool), e = .returned (.tuple #[.int .i64 (E : Int), .int .i64 (v : Int), .bool ok]) ∧ Below w.heap.size w w' ∧ a ≤ E ∧ E ≤ t.size ∧ numS t a = if ok then some (E, v) else none
theorem numS_big {t : ByteArray} {a : Nat} (h : 4 < span digB t a) : numS t a = none := by unfold numS; rw [if_pos h]
theorem numS_plain {t : ByteArray} {a k I : Nat} (hI : I = a + k) (hs : span digB t a = k) (h : ¬ 4 < k) (h2 : ¬ (I < t.size ∧ byteAt t I = 46)) : numS t a = some (I, valN t a k * 256) := by
  subst hI; unfold numS; rw [hs, if_neg h, if_neg h2]
theorem numS_badp {t : ByteArray} {a k I q : Nat} (hI : I = a + k) (hs : span digB t a = k) (h : ¬ 4 < k) (h2 : I < t.size ∧ byteAt t I = 46) (hq : span digB t (I + 1) = q) (h3 : q < 1 ∨ 4 < q) : numS t a = none := by
  subst hI; unfold numS; rw [hs, if_neg h, if_pos h2, hq, if_pos h3]
theorem numS_frac {t : ByteArray} {a k I q : Nat} (hI : I = a + k) (hs : span digB t a = k) (h : ¬ 4 < k) (h2 : I < t.size ∧ byteAt t I = 46) (hq : span digB t (I + 1) = q) (h3 : ¬ (q < 1 ∨ 4 < q)) : numS t a = some (I + 1 + q, valN t a k * 256 + valN t (I + 1) q * 256 / 10 ^ q) := by
  subst hI; unfold numS; rw [hs, if_neg h, if_pos h2, hq, if_neg h3]
/-- A round's step: a digit more. -/
structure DigStep (c d V V' : Nat) : Prop where
  w1 : IntKind.u8.wrap ((c : Int) - 48) = (d : Int)
  w2 : IntKind.i64.wrap (d : Int) = (d : Int)
  w3 : IntKind.i64.wrap ((V : Int) * 10) = (V : Int) * 10
  w4 : IntKind.i64.wrap ((V : Int) * 10 + (d : Int)) = (V' : Int)
theorem digStep {c V V' : Nat} (hc : digB c = true) (hV : V < 1000000) (hV' : V' = 10 * V + (c - 48)) : DigStep c (c - 48) V V' := by
  simp only [digB, decide_eq_true_eq] at hc
  exact ⟨by rw [IntWalk.u8_in _ (by omega)]; omega, IntWalk.i64_in _ (by omega), IntWalk.i64_in _ (by omega), by rw [IntWalk.i64_in _ (by omega)]; omega⟩
theorem valN_6 {t : ByteArray} {a k I : Nat} (hI : I = a + k) (hs : span digB t a = k + span digB t I) (hk : k ≤ 6) : valN t a k < 1000000 := by
  have h1 := valN_bd (t := t) (i := a) (n := k) (m := 6) (fun j hj => span_all (by omega)) hk
  have e : 10 ^ 6 = 1000000 := by decide
  omega
set_option maxRecDepth 100000 in
set_option maxHeartbeats 4000000 in
theorem l12Number_c (t : ByteArray) (a : Nat) (w : World) (ha : a < t.size) (ht : t.size ≤ 2000) :
    Calls Tryd.prog 92 #[.string t, .int .i64 (a : Int)] w (NumE t a w) := by
  have ix : ∀ (j : Nat), j < t.size → ∀ (w : World), (Instr.index 9 (.string t) (.int .i64 (j : Int))).run Tryd.prog w = .ok (.int .u8 (byteAt t j)) w := fun j hj w => by
    rw [run_index_string w _ t .i64 _ Tryd.underlying9, dif_pos ⟨by omega, by omega⟩]
    simp only [Int.toNat_natCast, byteAt_eq hj]
  have IX := Lib.hid ix
  clear ix
  go_enter Tryd.func92, Tryd.ntmps92
  go_wp2
  go_loopw [7, 8] (fun i n wr => ∃ I k : Nat, i = .int .i64 I ∧ n = .int .i64 (valN t a k : Nat) ∧ Below w.heap.size w wr ∧ Hid (I = a + k ∧ span digB t a = k + span digB t I) ∧ k ≤ 6 ∧ I ≤ t.size ∧ a ≤ I) (fun i _ _ => t.size - (intOf i).toNat)
  case atStart => exact ⟨a, 0, rfl, rfl, Below.refl _ _, Lib.hid ⟨rfl, by simp⟩, by omega, by omega, by omega⟩
  case round =>
    obtain ⟨I, k, rfl, rfl, hbel, HI, hk6, hIs, haI⟩ := hrel
    have hbs := hbel.size
    have hV := valN_6 HI.out.1 HI.out.2 hk6
    have HVS := Lib.hid (show valN t a (k + 1) = 10 * valN t a k + (byteAt t I - 48) by rw [HI.out.1]; rfl)
    have HPL := Lib.hid (fun hs h h2 => numS_plain (t := t) (a := a) (k := k) (I := I) HI.out.1 hs h h2)
    have HBP := Lib.hid (fun hs h h2 q hq h3 => numS_badp (t := t) (a := a) (k := k) (I := I) (q := q) HI.out.1 hs h h2 hq h3)
    have HFR := Lib.hid (fun hs h h2 q hq h3 => numS_frac (t := t) (a := a) (k := k) (I := I) (q := q) HI.out.1 hs h h2 hq h3)
    obtain ⟨V, hVe⟩ : ∃ V, V = valN t a k := ⟨_, rfl⟩
    rw [← hVe] at hV HVS HPL HFR
    have HVE := Lib.hid hVe
    have hwk : IntKind.i64.wrap ((I : Int) - (a : Int)) = (k : Int) := by have := HI.out.1; rw [IntWalk.i64_in _ (by omega)]; omega
    obtain ⟨V1, hV1⟩ : ∃ V1, V1 = V * 256 := ⟨_, rfl⟩
    have hwv : IntKind.i64.wrap ((V : Int) * 256) = (V1 : Int) := by rw [IntWalk.i64_in _ (by omega)]; omega
    rw [← hV1] at HPL HFR
    have hV1b : V1 ≤ 256000000 := by omega
    rw [← hVe]
    clear hVe hV1
    by_cases hlt : I < t.size
    · have hlt' : (I : Int) < (t.size : Int) := by omega
      have hne' : ((I : Int) == (t.size : Int)) = false := by rw [beq_eq_false_iff_ne]; omega
      have hne'' : ¬ (I : Int) = (t.size : Int) := by omega
      have ix := IX.out I hlt
      cases hd : digB (byteAt t I)
      · have hs : span digB t a = k := by have := HI.out.2; rw [span_no hd] at this; exact this
        by_cases h4 : 4 < k
        · have HE := Lib.hid (numS_big (t := t) (a := a) (by rw [hs]; exact h4))
          have h4' : (4 : Int) < (k : Int) := by omega
          have HD := Lib.hid (fun W => hd ▸ l12Digit_c (byteAt t I) W)
          clear hd hs
          generalize byteAt t I = c at *
          go_wp2_with (go_at_call 91; refine (HD.out _).mono ?_; rintro e w' ⟨rfl, rfl⟩)
          exact bodyPost_ret (v := .tuple #[.int .i64 (I : Int), .int .i64 0, .bool false]) (by simp [results, Tryd.results92, go_sem]) rfl ⟨I, 0, false, rfl, hbel, haI, hIs, HE.out⟩
        · have h4' : ¬ (4 : Int) < (k : Int) := by omega
          by_cases hdot : byteAt t I = 46
          · have HD := Lib.hid (fun W => hd ▸ l12Digit_c (byteAt t I) W)
            have HBP2 := Lib.hid (HBP.out hs h4 ⟨hlt, hdot⟩)
            have HFR2 := Lib.hid (HFR.out hs h4 ⟨hlt, hdot⟩)
            rw [hdot] at ix HD
            have ix46 : ∀ (w : World), (Instr.index 9 (.string t) (.int .i64 (I : Int))).run Tryd.prog w = .ok (.int .u8 46) w := ix
            have HD2 : Hid (∀ W, Calls Tryd.prog 91 #[.int .u8 46] W fun e w' => e = .returned (.bool false) ∧ w' = W) := HD
            clear hd hs ix HD HPL HBP HFR hdot HVS
            obtain ⟨S, hS⟩ : ∃ S, S = I + 1 := ⟨_, rfl⟩
            rw [← hS] at HBP2 HFR2
            have hwS : IntKind.i64.wrap ((I : Int) + 1) = (S : Int) := by rw [IntWalk.i64_in _ (by omega)]; omega
            have hSs : S ≤ t.size := by omega
            have haS : a ≤ S := by omega
            clear hS
            go_wp2_with (go_at_call 91; refine (HD2.out _).mono ?_; rintro e w' ⟨rfl, rfl⟩)
            go_loopw [7, 10, 11] (fun i n u wr => ∃ J q : Nat, i = .int .i64 J ∧ n = .int .i64 (valN t S q : Nat) ∧ u = .int .i64 (10 ^ q : Nat) ∧ Below w.heap.size w wr ∧ Hid (J = S + q ∧ span digB t S = q + span digB t J) ∧ q ≤ 6 ∧ J ≤ t.size ∧ S ≤ J) (fun i _ _ _ => t.size - (intOf i).toNat)
            case atStart => exact ⟨S, 0, rfl, rfl, rfl, hbel, Lib.hid ⟨rfl, by simp⟩, by omega, by omega, by omega⟩
            case round =>
              clear ix46 HD2
              clear hbel hbs
              obtain ⟨J, q, rfl, rfl, rfl, hbel, HJ, hq6, hJs, hSJ⟩ := hrel
              have hbs := hbel.size
              have hq10 : 10 ^ q ≤ 1000000 := by
                have := Nat.pow_le_pow_right (n := 10) (by decide) hq6
                have e : 10 ^ 6 = 1000000 := by decide
                omega
              have hP1 : 1 ≤ 10 ^ q := Nat.one_le_pow _ _ (by decide)
              have HPS := Lib.hid (show 10 ^ (q + 1) = 10 ^ q * 10 from Nat.pow_succ ..)
              have hF := valN_6 HJ.out.1 HJ.out.2 hq6
              have HFS := Lib.hid (show valN t S (q + 1) = 10 * valN t S q + (byteAt t J - 48) by rw [HJ.out.1]; rfl)
              have hwq : IntKind.i64.wrap ((J : Int) - (S : Int)) = (q : Int) := by have := HJ.out.1; rw [IntWalk.i64_in _ (by omega)]; omega
              have HBA := Lib.hid HBP2.out
              have HF2 := Lib.hid (fun h1 h3 => HFR2.out q h1 h3)
              have HB2 := Lib.hid (fun h1 h3 => HBP2.out q h1 h3)
              obtain ⟨F, hFe⟩ : ∃ F, F = valN t S q := ⟨_, rfl⟩
              obtain ⟨P, hPe⟩ : ∃ P, P = 10 ^ q := ⟨_, rfl⟩
              rw [← hFe] at hF HFS HF2 ⊢
              rw [← hPe] at hq10 hP1 HPS HF2 ⊢
              clear hFe hPe HFR2 HBP2
              have hJS : J = S + q := HJ.out.1
              have hJe : ((J : Int) == (S : Int)) = decide (q = 0) := by
                by_cases h0 : q = 0
                · rw [decide_eq_true h0, beq_iff_eq]; omega
                · rw [decide_eq_false h0, beq_eq_false_iff_ne]; omega
              rw [← hJS] at HF2
              have HJS := Lib.hid hJS
              have hP0 : ¬ (P : Int) = 0 := by omega
              have hP0' : ((P : Int) == 0) = false := by rw [beq_eq_false_iff_ne]; omega
              have hP0'' : ¬ P = 0 := by omega
              obtain ⟨F1, hF1⟩ : ∃ F1, F1 = F * 256 := ⟨_, rfl⟩
              rw [← hF1] at HF2
              have hwF : IntKind.i64.wrap ((F : Int) * 256) = (F1 : Int) := by rw [IntWalk.i64_in _ (by omega)]; omega
              obtain ⟨Q, hQ⟩ : ∃ Q, Q = F1 / P := ⟨_, rfl⟩
              rw [← hQ] at HF2
              have hQ2 : Q ≤ F1 := by rw [hQ]; exact Nat.div_le_self _ _
              have q1 : (F1 : Int) / (P : Int) = (Q : Int) := by rw [hQ, Int.natCast_ediv]
              have q2 : (F1 : Int).tdiv (P : Int) = (Q : Int) := by rw [Int.tdiv_eq_ediv_of_nonneg (by omega)]; exact q1
              have q3 : IntKind.i64.wrap (Q : Int) = (Q : Int) := IntWalk.i64_in _ (by omega)
              obtain ⟨VT, hVT⟩ : ∃ VT, VT = V1 + Q := ⟨_, rfl⟩
              rw [← hVT] at HF2
              have hwT : IntKind.i64.wrap ((V1 : Int) + (Q : Int)) = (VT : Int) := by rw [IntWalk.i64_in _ (by omega)]; omega
              clear hF1 hQ hVT hJS
              have haJ : a ≤ J := by omega
              by_cases hlt : J < t.size
              · have hlt' : (J : Int) < (t.size : Int) := by omega
                have ix := IX.out J hlt
                cases hd : digB (byteAt t J)
                · have hs : span digB t S = q := by have := HJ.out.2; rw [span_no hd] at this; exact this
                  have HD := Lib.hid (fun W => hd ▸ l12Digit_c (byteAt t J) W)
                  clear hd
                  generalize byteAt t J = c at *
                  by_cases h0 : q = 0
                  · have HE := Lib.hid (HB2.out hs (.inl (by omega)))
                    rw [decide_eq_true h0] at hJe
                    clear h0 hs
                    go_wp2_with (go_at_call 91; refine (HD.out _).mono ?_; rintro e w' ⟨rfl, rfl⟩)
                    exact bodyPost_ret (v := .tuple #[.int .i64 (J : Int), .int .i64 0, .bool false]) (by simp [results, Tryd.results92, go_sem]) rfl ⟨J, 0, false, rfl, hbel, haJ, hJs, HE.out⟩
                  · rw [decide_eq_false h0] at hJe
                    by_cases h4 : 4 < q
                    · have HE := Lib.hid (HB2.out hs (.inr h4))
                      have h4' : (4 : Int) < (q : Int) := by omega
                      clear h0 hs
                      go_wp2_with (go_at_call 91; refine (HD.out _).mono ?_; rintro e w' ⟨rfl, rfl⟩)
                      exact bodyPost_ret (v := .tuple #[.int .i64 (J : Int), .int .i64 0, .bool false]) (by simp [results, Tryd.results92, go_sem]) rfl ⟨J, 0, false, rfl, hbel, haJ, hJs, HE.out⟩
                    · have HE := Lib.hid (HF2.out hs (by omega))
                      have h4' : ¬ (4 : Int) < (q : Int) := by omega
                      clear h0 hs
                      go_wp2_with (go_at_call 91; refine (HD.out _).mono ?_; rintro e w' ⟨rfl, rfl⟩)
                      (first | refine region_q2 (by kernel_rfl) (by kernel_rfl) ?_ | refine region_q (by kernel_rfl) (by kernel_rfl) ?_)
                      repeat (quiet_step (fail))
                      (refine wpQuiet_nil ?_; intro X nX)
                      go_wp2
                      exact bodyPost_ret (v := .tuple #[.int .i64 (J : Int), .int .i64 (VT : Int), .bool true]) (by simp [results, Tryd.results92, go_sem]) rfl ⟨J, VT, true, rfl, (by repeat (first | exact Below.refl _ _ | refine Below.drew ?_ | refine Below.alloc ?_ (by first | exact Nat.le_refl _ | (simp; done) | (simp; omega) | omega) _ | refine Below.more ?_ (by first | exact Nat.le_refl _ | (simp; done) | (simp; omega) | omega) _ _ | refine Below.setCell ?_ (by first | exact Nat.le_refl _ | (simp; done) | (simp; omega) | omega) _ | assumption)), haJ, hJs, HE.out⟩
                · by_cases h6 : q < 6
                  · have h6' : (q : Int) ≤ 5 := by omega
                    obtain ⟨g1, g2, g3, g4⟩ := digStep hd hF HFS.out
                    have HD := Lib.hid (fun W => hd ▸ l12Digit_c (byteAt t J) W)
                    have HS2 := Lib.hid (show J + 1 = S + (q + 1) ∧ span digB t S = q + 1 + span digB t (J + 1) from ⟨by have := HJ.out.1; omega, by have := HJ.out.2; rw [span_yes hlt hd] at this; omega⟩)
                    clear hd
                    generalize byteAt t J - 48 = d at *
                    generalize byteAt t J = c at *
                    obtain ⟨F', hF'⟩ : ∃ F', F' = valN t S (q + 1) := ⟨_, rfl⟩
                    rw [← hF'] at g4
                    have HFE' := Lib.hid hF'
                    obtain ⟨P', hP'⟩ : ∃ P', P' = 10 ^ (q + 1) := ⟨_, rfl⟩
                    rw [← hP'] at HPS
                    have hwP : IntKind.i64.wrap ((P : Int) * 10) = (P' : Int) := by have := HPS.out; rw [IntWalk.i64_in _ (by omega)]; omega
                    have HPE' := Lib.hid hP'
                    clear hF' hP'
                    go_wp2_with (go_at_call 91; refine (HD.out _).mono ?_; rintro e w' ⟨rfl, rfl⟩)
                    exact ⟨⟨J + 1, q + 1, by first | rfl | go_num, congrArg (fun z : Nat => Value.int .i64 (z : Int)) HFE'.out, congrArg (fun z : Nat => Value.int .i64 (z : Int)) HPE'.out, hbel, HS2.out |> Lib.hid, by omega, by omega, by omega⟩, by simp only [intOf]; omega⟩
                  · have h6' : ¬ (q : Int) ≤ 5 := by omega
                    have h4' : (4 : Int) < (q : Int) := by omega
                    have hq0 : ¬ q = 0 := by omega
                    rw [decide_eq_false hq0] at hJe
                    have HE := Lib.hid (HBA.out (span digB t S) rfl (.inr (by have := HJ.out.2; omega)))
                    have HD := Lib.hid (fun W => hd ▸ l12Digit_c (byteAt t J) W)
                    clear hd hq0
                    generalize byteAt t J = c at *
                    go_wp2_with (go_at_call 91; refine (HD.out _).mono ?_; rintro e w' ⟨rfl, rfl⟩)
                    exact bodyPost_ret (v := .tuple #[.int .i64 (J : Int), .int .i64 0, .bool false]) (by simp [results, Tryd.results92, go_sem]) rfl ⟨J, 0, false, rfl, hbel, haJ, hJs, HE.out⟩
              · have hlt' : ¬ (J : Int) < (t.size : Int) := by omega
                have hs : span digB t S = q := by have := HJ.out.2; rw [span_end (i := J) (by omega)] at this; exact this
                by_cases h0 : q = 0
                · have HE := Lib.hid (HB2.out hs (.inl (by omega)))
                  rw [decide_eq_true h0] at hJe
                  clear h0 hs
                  go_wp2
                  exact bodyPost_ret (v := .tuple #[.int .i64 (J : Int), .int .i64 0, .bool false]) (by simp [results, Tryd.results92, go_sem]) rfl ⟨J, 0, false, rfl, hbel, haJ, hJs, HE.out⟩
                · rw [decide_eq_false h0] at hJe
                  by_cases h4 : 4 < q
                  · have HE := Lib.hid (HB2.out hs (.inr h4))
                    have h4' : (4 : Int) < (q : Int) := by omega
                    clear h0 hs
                    go_wp2
                    exact bodyPost_ret (v := .tuple #[.int .i64 (J : Int), .int .i64 0, .bool false]) (by simp [results, Tryd.results92, go_sem]) rfl ⟨J, 0, false, rfl, hbel, haJ, hJs, HE.out⟩
                  · have HE := Lib.hid (HF2.out hs (by omega))
                    have h4' : ¬ (4 : Int) < (q : Int) := by omega
                    clear h0 hs
                    go_wp2
                    (first | refine region_q2 (by kernel_rfl) (by kernel_rfl) ?_ | refine region_q (by kernel_rfl) (by kernel_rfl) ?_)
                    repeat (quiet_step (fail))
                    (refine wpQuiet_nil ?_; intro X nX)
                    go_wp2
                    exact bodyPost_ret (v := .tuple #[.int .i64 (J : Int), .int .i64 (VT : Int), .bool true]) (by simp [results, Tryd.results92, go_sem]) rfl ⟨J, VT, true, rfl, (by repeat (first | exact Below.refl _ _ | refine Below.drew ?_ | refine Below.alloc ?_ (by first | exact Nat.le_refl _ | (simp; done) | (simp; omega) | omega) _ | refine Below.more ?_ (by first | exact Nat.le_refl _ | (simp; done) | (simp; omega) | omega) _ _ | refine Below.setCell ?_ (by first | exact Nat.le_refl _ | (simp; done) | (simp; omega) | omega) _ | assumption)), haJ, hJs, HE.out⟩
          · have HE := Lib.hid (HPL.out hs h4 (fun q => hdot q.2))
            have hd46 : ((byteAt t I : Int) == 46) = false := by rw [beq_eq_false_iff_ne]; omega
            have HD := Lib.hid (fun W => hd ▸ l12Digit_c (byteAt t I) W)
            have hd46' : ¬ (byteAt t I : Int) = 46 := by omega
            clear hd hs hdot
            generalize byteAt t I = c at *
            go_wp2_with (go_at_call 91; refine (HD.out _).mono ?_; rintro e w' ⟨rfl, rfl⟩)
            exact bodyPost_ret (v := .tuple #[.int .i64 (I : Int), .int .i64 (V1 : Int), .bool true]) (by simp [results, Tryd.results92, go_sem]) rfl ⟨I, V1, true, rfl, hbel, haI, hIs, HE.out⟩
      · by_cases h6 : k < 6
        · have h6' : (k : Int) ≤ 5 := by omega
          obtain ⟨g1, g2, g3, g4⟩ := digStep hd hV HVS.out
          have HD := Lib.hid (fun W => hd ▸ l12Digit_c (byteAt t I) W)
          have HS2 := Lib.hid (show I + 1 = a + (k + 1) ∧ span digB t a = k + 1 + span digB t (I + 1) from ⟨by have := HI.out.1; omega, by have := HI.out.2; rw [span_yes hlt hd] at this; omega⟩)
          clear hd
          generalize byteAt t I - 48 = d at *
          generalize byteAt t I = c at *
          obtain ⟨V', hV'⟩ : ∃ V', V' = valN t a (k + 1) := ⟨_, rfl⟩
          rw [← hV'] at g4
          have HVE' := Lib.hid hV'
          clear hV'
          go_wp2_with (go_at_call 91; refine (HD.out _).mono ?_; rintro e w' ⟨rfl, rfl⟩)
          exact ⟨⟨I + 1, k + 1, by first | rfl | go_num, congrArg (fun z : Nat => Value.int .i64 (z : Int)) HVE'.out, hbel, HS2.out |> Lib.hid, by omega, by omega, by omega⟩, by simp only [intOf]; omega⟩
        · have h6' : ¬ (k : Int) ≤ 5 := by omega
          have h4' : (4 : Int) < (k : Int) := by omega
          have HE := Lib.hid (numS_big (t := t) (a := a) (by have := HI.out.2; omega))
          have HD := Lib.hid (fun W => hd ▸ l12Digit_c (byteAt t I) W)
          clear hd
          generalize byteAt t I = c at *
          go_wp2_with (go_at_call 91; refine (HD.out _).mono ?_; rintro e w' ⟨rfl, rfl⟩)
          exact bodyPost_ret (v := .tuple #[.int .i64 (I : Int), .int .i64 0, .bool false]) (by simp [results, Tryd.results92, go_sem]) rfl ⟨I, 0, false, rfl, hbel, haI, hIs, HE.out⟩
    · have hs : span digB t a = k := by have := HI.out.2; rw [span_end (i := I) (by omega)] at this; exact this
      have hlt' : ¬ (I : Int) < (t.size : Int) := by omega
      have heq' : ((I : Int) == (t.size : Int)) = true := by rw [beq_iff_eq]; omega
      by_cases h4 : 4 < k
      · have HE := Lib.hid (numS_big (t := t) (a := a) (by rw [hs]; exact h4))
        have h4' : (4 : Int) < (k : Int) := by omega
        clear hs
        go_wp2
        exact bodyPost_ret (v := .tuple #[.int .i64 (I : Int), .int .i64 0, .bool false]) (by simp [results, Tryd.results92, go_sem]) rfl ⟨I, 0, false, rfl, hbel, haI, hIs, HE.out⟩
      · have HE := Lib.hid (HPL.out hs h4 (fun q => hlt q.1))
        have h4' : ¬ (4 : Int) < (k : Int) := by omega
        clear hs
        go_wp2
        exact bodyPost_ret (v := .tuple #[.int .i64 (I : Int), .int .i64 (V1 : Int), .bool true]) (by simp [results, Tryd.results92, go_sem]) rfl ⟨I, V1, true, rfl, hbel, haI, hIs, HE.out⟩
end Go.Proofs.YtdkjiafdfenbkaaDoor
