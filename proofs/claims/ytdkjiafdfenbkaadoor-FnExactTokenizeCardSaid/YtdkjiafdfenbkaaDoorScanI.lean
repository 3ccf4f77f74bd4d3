/- The lexer of the program walked, up to one token. -/
import Derived.Test.YtdkjiafdfenbkaaDoorScanM
import Derived.Test.YtdkjiafdfenbkaaDoorShelf
import Derived.Test.YtdkjiafdfenbkaaDoorSInt
import Derived.IntWalk
import Derived.Lib.ConvBytes
namespace Go.Proofs.YtdkjiafdfenbkaaDoor
open Go Go.RowKit
set_option linter.unusedVariables false
theorem sl_lit {w : World} {g : Nat} {l : List Int} {e : TypeId} (h : w.heap[g]? = some (.cells ⟨l.map (.int .i64)⟩ e (0, 0))) : Sl w (some ⟨g, 0, none⟩) 1 l.length (intAt l) := by
  intro _
  refine ⟨g, 0, rfl, (Array.getElem?_eq_some_iff.1 h).1, fun i hi j hj => ?_⟩
  obtain rfl : j = 0 := by omega
  rw [cell_of_row w g _ _ e (0, 0) h]
  simp [intAt, hi]
theorem ix_sym : ∀ c, c < 256 → Lib.indexByte (⟨#[43, 45, 42, 47, 40, 41, 44, 61, 59]⟩ : ByteArray).data.toList (Int.toNat ((c : Nat) : Int)).toUInt8 = if symB c then (([43, 45, 42, 47, 40, 41, 44, 61, 59].idxOf c : Nat) : Int) else -1 := by decide +kernel
set_option maxRecDepth 100000 in
theorem kindOf_c (c : Nat) (hc : c < 256) (w : World) : Calls Tryd.prog 94 #[.int .u8 (c : Int)] w fun e w' => e = .returned (.int .i64 (kindN c : Nat)) ∧ w' = w := by
  by_cases h1 : c = 32 ∨ c = 10
  · have hk : kindN c = 1 := kind_sp.2 (by simpa [spB] using h1)
    rcases h1 with rfl | rfl
    all_goals
      go_enter Tryd.func94, Tryd.ntmps94
      go_wp2
      go_ret
      exact ⟨rfl, rfl⟩
  · have a1 : ((c : Int) == 32) = false := by rw [beq_eq_false_iff_ne]; omega
    have a2 : ((c : Int) == 10) = false := by rw [beq_eq_false_iff_ne]; omega
    have s1 : spB c = false := by simp only [spB, decide_eq_false_iff_not]; exact h1
    have b1 : ¬ (c : Int) = 32 := by omega
    have b2 : ¬ (c : Int) = 10 := by omega
    by_cases h2 : 48 ≤ c ∧ c ≤ 57
    · have HK := Lib.hid (show kindN c = 2 from kind_dig.2 (by simpa [digB] using h2))
      obtain ⟨h3, h4⟩ := h2
      have h3' : (48 : Int) ≤ (c : Int) := by omega
      have h4' : (c : Int) ≤ 57 := by omega
      go_enter Tryd.func94, Tryd.ntmps94
      go_wp2
      go_ret
      exact ⟨by rw [HK.out]; rfl, rfl⟩
    · by_cases h3 : 97 ≤ c ∧ c ≤ 122
      · have HK := Lib.hid (show kindN c = 3 from kind_let.2 (by simpa [letB] using h3))
        obtain ⟨h4, h5⟩ := h3
        have h4' : (48 : Int) ≤ (c : Int) := by omega
        have h5' : ¬ (c : Int) ≤ 57 := by omega
        have h6' : (97 : Int) ≤ (c : Int) := by omega
        have h7' : (c : Int) ≤ 122 := by omega
        have h8' : ¬ c ≤ 57 := by omega
        have h9' : 48 ≤ c := by omega
        clear h2
        go_enter Tryd.func94, Tryd.ntmps94
        go_wp2
        go_ret
        exact ⟨by rw [HK.out]; rfl, rfl⟩
      · have d2 : digB c = false := by simp only [digB, decide_eq_false_iff_not]; exact h2
        have d3 : letB c = false := by simp only [letB, decide_eq_false_iff_not]; exact h3
        have HK := Lib.hid (show kindN c = if symB c then 4 else 0 from by unfold kindN; rw [s1, d2, d3]; rfl)
        have HI := Lib.hid (fun W => Tryd.strings_IndexByte ⟨#[43, 45, 42, 47, 40, 41, 44, 61, 59]⟩ (c : Int) W)
        rw [ix_sym c hc] at HI
        clear d2 d3 s1 h1
        have e1 : ¬ ((48 : Int) ≤ (c : Int) ∧ (c : Int) ≤ 57) := by omega
        have e2 : ¬ ((97 : Int) ≤ (c : Int) ∧ (c : Int) ≤ 122) := by omega
        cases hs : symB c
        · rw [hs] at HI HK
          clear hs
          by_cases g1 : (48 : Int) ≤ (c : Int) <;> by_cases g2 : (c : Int) ≤ 57 <;> by_cases g3 : (97 : Int) ≤ (c : Int) <;> by_cases g4 : (c : Int) ≤ 122
          all_goals first | (exact absurd ⟨by omega, by omega⟩ e1) | (exact absurd ⟨by omega, by omega⟩ e2) | skip
          all_goals (try (exfalso; omega))
          all_goals
            clear h2 h3 e1 e2
            go_enter Tryd.func94, Tryd.ntmps94
            go_wp2_with (go_at_call 117; refine (HI.out _).mono ?_; rintro e w' ⟨rfl, rfl⟩)
            go_ret
            exact ⟨by rw [HK.out]; rfl, rfl⟩
        · rw [hs] at HI HK
          clear hs
          obtain ⟨q, hq⟩ : ∃ q : Nat, q = [43, 45, 42, 47, 40, 41, 44, 61, 59].idxOf c := ⟨_, rfl⟩
          rw [if_pos rfl, ← hq] at HI
          have hq0 : (0 : Int) ≤ (q : Int) := by omega
          clear hq
          by_cases g1 : (48 : Int) ≤ (c : Int) <;> by_cases g2 : (c : Int) ≤ 57 <;> by_cases g3 : (97 : Int) ≤ (c : Int) <;> by_cases g4 : (c : Int) ≤ 122
          all_goals (try (exfalso; omega))
          all_goals
            clear h2 h3 e1 e2
            go_enter Tryd.func94, Tryd.ntmps94
            go_wp2_with (go_at_call 117; refine (HI.out _).mono ?_; rintro e w' ⟨rfl, rfl⟩)
            go_ret
            exact ⟨by rw [HK.out]; rfl, rfl⟩
set_option maxRecDepth 100000 in
theorem power_k (k : Nat) (hk : k ≤ 4) (w : World) : Calls Tryd.prog 56 #[.int .i64 (k : Int)] w fun e w' => e = .returned (.int .i64 (10 ^ k : Nat)) ∧ w' = w := by
  have hk' : k = 0 ∨ k = 1 ∨ k = 2 ∨ k = 3 ∨ k = 4 := by omega
  rcases hk' with rfl | rfl | rfl | rfl | rfl
  all_goals
    go_enter Tryd.func56, Tryd.ntmps56
    go_wp2
    go_rounds 5
    all_goals (go_ret; exact ⟨rfl, rfl⟩)
set_option maxRecDepth 100000 in
set_option maxHeartbeats 1000000 in
theorem spanOf_c (p : Nat → Bool) (t : ByteArray) (i : Nat) (a : Option Addr) (cap : Nat) (ks : List Int) (m : Nat) (HM : Hid (ks.length = m)) (w : World) (hr : Sl w a 1 m (intAt ks)) (hp : ∀ c, c < 256 → p c = ks.any fun q => (kindN c : Int) == q) (hi : i ≤ t.size) (ht : t.size ≤ 1048576) (hm : m ≤ 1000) :
    Calls Tryd.prog 127 #[.string t, .int .i64 (i : Int), .slice a m cap] w fun e w' => e = .returned (.int .i64 (span p t i : Nat)) ∧ w' = w := by
  have HR := Lib.hid hr
  have HP := Lib.hid hp
  clear hr hp
  go_enter Tryd.func127, Tryd.ntmps127
  go_wp2
  go_loopw [7] (fun n wr => ∃ k : Nat, i + k ≤ t.size ∧ n = .int .i64 k ∧ w = wr ∧ Hid (span p t i = k + span p t (i + k))) (fun n _ => t.size - (intOf n).toNat)
  case atStart => exact ⟨0, by omega, rfl, rfl, Lib.hid (by simp)⟩
  case round =>
    obtain ⟨k, hk, rfl, rfl, HS⟩ := hrel
    have hw : IntKind.i64.wrap ((i : Int) + (k : Int)) = ((i + k : Nat) : Int) := by rw [Int.natCast_add]; exact IntWalk.i64_in _ (by omega)
    by_cases hlt : i + k < t.size
    · have hk1 : ((i + k : Nat) : Int) < (t.size : Int) := by omega
      have ix : ∀ (w : World), (Instr.index 9 (.string t) (.int .i64 ((i + k : Nat) : Int))).run Tryd.prog w = .ok (.int .u8 (byteAt t (i + k))) w := fun w => by
        rw [run_index_string w _ t .i64 _ Tryd.underlying9, dif_pos ⟨by omega, by omega⟩]
        simp only [Int.toNat_natCast, byteAt_eq hlt]
      have hcl := byteAt_lt t (i + k)
      have HY := Lib.hid (fun h => span_yes (p := p) hlt h)
      have HN := Lib.hid (fun h => span_no (p := p) (t := t) (i := i + k) h)
      have HPC := Lib.hid (HP.out _ hcl)
      obtain ⟨j, hj⟩ : ∃ j, j = i + k := ⟨_, rfl⟩
      rw [← hj] at hw hk1 ix hcl HY HN HPC HS
      have HJ := Lib.hid hj
      generalize byteAt t j = c at *
      clear hj hlt
      go_wp2
      go_loopw [8, 19] (fun b u wr => ∃ q : Nat, q ≤ m ∧ u = .int .i64 q ∧ w = wr ∧ b = .bool ((ks.take q).any fun z => (kindN c : Int) == z)) (fun _ u _ => m - (intOf u).toNat)
      case atStart => exact ⟨0, by omega, rfl, rfl, rfl⟩
      case round =>
        obtain ⟨q, hq, rfl, rfl, rfl⟩ := hrel
        by_cases hql : q < m
        · have hq1 : (q : Int) < (m : Int) := by omega
          obtain ⟨b, o, rfl, hb, hc⟩ := HR.out (by omega)
          have c0 : w.cell? ⟨b, o + q, none⟩ = some (.int .i64 (ks.getD q 0)) := by have := hc q hql 0 (by omega); rw [Nat.mul_one, Nat.add_zero] at this; rw [this]; simp [intAt]
          have HTK := Lib.hid (show (ks.take (q + 1)).any (fun z => (kindN c : Int) == z) = ((ks.take q).any (fun z => (kindN c : Int) == z) || ((kindN c : Int) == ks.getD q 0)) from by
            rw [List.take_add_one, List.any_append, List.getElem?_eq_getElem (by rw [HM.out]; exact hql), List.getD_eq_getElem?_getD, List.getElem?_eq_getElem (by rw [HM.out]; exact hql)]
            simp)
          clear hc
          generalize ks.getD q 0 = z at *
          cases hb : (ks.take q).any (fun z => (kindN c : Int) == z)
          · rw [hb] at HTK
            clear hb
            have HT2 := Lib.hid HTK.out
            go_wp2_with (go_at_call 94; refine (kindOf_c c hcl _).mono ?_; rintro e w' ⟨rfl, rfl⟩)
            refine ⟨⟨q + 1, by omega, by first | rfl | go_num, by first | rfl | trivial, by rw [HT2.out]; simp⟩, by simp only [intOf]; omega⟩
          · rw [hb] at HTK
            clear hb
            have HT2 := Lib.hid HTK.out
            go_wp2_with (go_at_call 94; refine (kindOf_c c hcl _).mono ?_; rintro e w' ⟨rfl, rfl⟩)
            refine ⟨⟨q + 1, by omega, by first | rfl | go_num, by first | rfl | trivial, by rw [HT2.out]; simp⟩, by simp only [intOf]; omega⟩
        · have hq1 : ¬ (q : Int) < (m : Int) := by omega
          have hqe : (ks.take q).any (fun z => (kindN c : Int) == z) = p c := by rw [HPC.out, List.take_of_length_le (by rw [HM.out]; omega)]
          rw [hqe]
          clear hqe
          cases hpc : p c
          · have HE := Lib.hid (HN.out hpc)
            clear hpc
            go_wp2
            go_ret
            exact ⟨by rw [HS.out, HE.out]; rfl, rfl⟩
          · have HE := Lib.hid (HY.out hpc)
            clear hpc
            go_wp2
            refine ⟨⟨k + 1, by have := HJ.out; omega, by first | rfl | go_num, by first | rfl | trivial, Lib.hid ?_⟩, by have := HJ.out; simp only [intOf]; omega⟩
            rw [HS.out, HE.out, HJ.out, ← Nat.add_assoc, ← Nat.add_assoc]
    · have hk1 : ¬ ((i + k : Nat) : Int) < (t.size : Int) := by omega
      have HE := Lib.hid (span_end (p := p) (t := t) (i := i + k) (by omega))
      go_wp2
      go_ret
      exact ⟨by rw [HS.out, HE.out]; rfl, rfl⟩
theorem byteAt_getD {s : ByteArray} {j : Nat} (h : j < s.size) : (s.data.toList.getD j 0).toNat = byteAt s j := by
  have h1 : j < s.data.toList.length := by rw [Array.length_toList]; exact h
  have h2 : (s.data.toList[j]'h1).toNat = byteAt s j := by
    rw [← byteAt_eq h]
    rfl
  rw [← h2, List.getD_eq_getElem?_getD, List.getElem?_eq_getElem h1]
  rfl
theorem bytes_of (s : ByteArray) (w : World) : ∃ cap W1, (convert 9 38 (.string s)).run Tryd.prog w = .ok (.slice (some ⟨w.heap.size, 0, none⟩) s.size cap) W1 ∧ Below w.heap.size w W1 ∧ w.heap.size < W1.heap.size ∧ ∀ j, j < s.size → W1.cell? ⟨w.heap.size, j, none⟩ = some (.int .u8 (byteAt s j)) := by
  refine ⟨_, _, Lib.run_convert_string_bytes w _ _ 5 s Tryd.underlying9 Tryd.underlying38 Tryd.underlying5, ⟨rfl, rfl, rfl, by rw [Lib.bytesWorld_size]; omega, fun k hk => Lib.bytesWorld_at_old _ _ _ k hk⟩, by rw [Lib.bytesWorld_size]; omega, fun j hj => ?_⟩
  rw [Lib.bytesWorld_cell _ _ _ j hj, byteAt_getD hj]
set_option maxRecDepth 100000 in
set_option maxHeartbeats 1000000 in
theorem valueOf_c (s : ByteArray) (hs : s.size ≤ 4) (hd : ∀ k, k < s.size → digB (byteAt s k) = true) (w : World) :
    Calls Tryd.prog 142 #[.string s] w fun e w' => e = .returned (.int .i64 (valN s 0 s.size : Nat)) ∧ Below w.heap.size w w' := by
  obtain ⟨cap, W1, hcv, hb, hlt1, hcl⟩ := bytes_of s w
  have HB := Lib.hid hb
  have HC := Lib.hid hcl
  have HD := Lib.hid hd
  have HS := Lib.hid (fun k => show valN s 0 (k + 1) = 10 * valN s 0 k + (byteAt s (0 + k) - 48) from rfl)
  have HL := Lib.hid (fun k (hk : k ≤ s.size) => valN_bd (t := s) (i := 0) (n := k) (m := 4) (fun j hj => by rw [Nat.zero_add]; exact hd j (by omega)) (by omega))
  clear hb hcl hd
  go_enter Tryd.func142, Tryd.ntmps142
  go_wp2
  go_loopw [3, 9] (fun n u wr => ∃ k : Nat, k ≤ s.size ∧ u = .int .i64 k ∧ n = .int .i64 (valN s 0 k : Nat) ∧ W1 = wr) (fun _ u _ => s.size - (intOf u).toNat)
  case atStart => exact ⟨0, by omega, rfl, rfl, rfl⟩
  case round =>
    obtain ⟨k, hk, rfl, rfl, rfl⟩ := hrel
    have hv := HL.out k hk
    have e4 : 10 ^ 4 = 10000 := by decide
    rw [e4] at hv
    clear e4
    by_cases hlt : k < s.size
    · have hk1 : (k : Int) < (s.size : Int) := by omega
      have c0 := HC.out k hlt
      have HS1 := HS.out k
      have hdk := HD.out k hlt
      simp only [digB, decide_eq_true_eq] at hdk
      rw [Nat.zero_add] at HS1
      have HV := Lib.hid HS1
      clear HS1
      obtain ⟨v', hv'⟩ : ∃ v', v' = valN s 0 (k + 1) := ⟨_, rfl⟩
      rw [← hv'] at HV
      have HVE := Lib.hid hv'
      clear hv'
      generalize valN s 0 k = v at *
      generalize byteAt s k = c at *
      obtain ⟨d, hd2⟩ : ∃ d : Nat, d = c - 48 := ⟨_, rfl⟩
      have w1 : IntKind.u8.wrap ((c : Int) - 48) = (d : Int) := by
        rw [IntWalk.u8_in _ (by omega)]
        omega
      have w2 : IntKind.i64.wrap (d : Int) = (d : Int) := IntWalk.i64_in _ (by omega)
      have w3 : IntKind.i64.wrap (10 * (v : Int)) = 10 * (v : Int) := IntWalk.i64_in _ (by omega)
      have w4 : IntKind.i64.wrap (10 * (v : Int) + (d : Int)) = (v' : Int) := by have := HV.out; rw [IntWalk.i64_in _ (by omega)]; omega
      clear hd2 hdk
      go_wp2
      exact ⟨⟨k + 1, by omega, by first | rfl | go_num, congrArg (fun z : Nat => Value.int .i64 (z : Int)) HVE.out, by first | rfl | trivial⟩, by simp only [intOf]; omega⟩
    · obtain rfl : k = s.size := by omega
      have hk1 : ¬ (s.size : Int) < (s.size : Int) := by omega
      go_wp2
      go_ret
      exact ⟨rfl, HB.out⟩
end Go.Proofs.YtdkjiafdfenbkaaDoor
