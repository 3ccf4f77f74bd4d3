/- The lexer of the program walked: one token. -/
import Derived.Test.YtdkjiafdfenbkaaDoorScanI
namespace Go.Proofs.YtdkjiafdfenbkaaDoor
open Go Go.RowKit
set_option linter.unusedVariables false
/-- A token and no error, or an error that holds a place. -/
def ScanE (o : Option TokenD) (a : Nat) (w : World) (e : Ending) (w' : World) : Prop :=
  match o with
  | some k => e = .returned (.tuple #[.agg ⟨k.cells⟩, .nilIface]) ∧ Below w.heap.size w w'
  | none => ∃ b, e = .returned (.tuple #[.agg #[.int .i64 0, .string ByteArray.empty, .int .i64 0, .int .i64 0], .iface 94 (.pointer (some ⟨b, 0, none⟩))]) ∧ w.heap.size ≤ b ∧ w'.cell? ⟨b, 0, none⟩ = some (.int .i64 (a : Int)) ∧ Below w.heap.size w w'
/-- The number token at a place. -/
def numTok (t : ByteArray) (a : Nat) : Option TokenD := match numS t a with | some (e, v) => some ⟨1, t.extract a e, v, a⟩ | none => none
theorem num_big {t : ByteArray} {a : Nat} (h : 4 < span digB t a) : numTok t a = none := by unfold numTok numS; rw [if_pos h]
theorem num_plain {t : ByteArray} {a : Nat} (h : ¬ 4 < span digB t a) (h2 : ¬ (a + span digB t a < t.size ∧ byteAt t (a + span digB t a) = 46)) : numTok t a = some ⟨1, t.extract a (a + span digB t a), ((valN t a (span digB t a) * 256 : Nat) : Int), a⟩ := by
  unfold numTok numS; rw [if_neg h, if_neg h2]
theorem num_badp {t : ByteArray} {a : Nat} (h : ¬ 4 < span digB t a) (h2 : a + span digB t a < t.size ∧ byteAt t (a + span digB t a) = 46) (h3 : span digB t (a + span digB t a + 1) < 1 ∨ 4 < span digB t (a + span digB t a + 1)) : numTok t a = none := by
  unfold numTok numS; rw [if_neg h, if_pos h2, if_pos h3]
theorem num_frac {t : ByteArray} {a : Nat} (h : ¬ 4 < span digB t a) (h2 : a + span digB t a < t.size ∧ byteAt t (a + span digB t a) = 46) (h3 : ¬ (span digB t (a + span digB t a + 1) < 1 ∨ 4 < span digB t (a + span digB t a + 1))) :
    numTok t a = some ⟨1, t.extract a (a + span digB t a + 1 + span digB t (a + span digB t a + 1)), ((valN t a (span digB t a) * 256 + valN t (a + span digB t a + 1) (span digB t (a + span digB t a + 1)) * 256 / 10 ^ span digB t (a + span digB t a + 1) : Nat) : Int), a⟩ := by
  unfold numTok numS; rw [if_neg h, if_pos h2, if_neg h3]
theorem digs_kind : ∀ c, c < 256 → digB c = ([2] : List Int).any fun q => (kindN c : Int) == q := by decide +kernel
theorem aln_kind : ∀ c, c < 256 → alnB c = ([3, 2] : List Int).any fun q => (kindN c : Int) == q := by decide +kernel
theorem valN_sub {t : ByteArray} {a n : Nat} (h : a + n ≤ t.size) : valN (t.extract a (a + n)) 0 (t.extract a (a + n)).size = valN t a n := by
  rw [show (t.extract a (a + n)).size = n by rw [ByteArray.size_extract]; omega]
  exact valN_extract h n (Nat.le_refl _)
theorem digs_sub {t : ByteArray} {a n : Nat} (h : a + n ≤ t.size) (hd : ∀ k, k < n → digB (byteAt t (a + k)) = true) : ∀ k, k < (t.extract a (a + n)).size → digB (byteAt (t.extract a (a + n)) k) = true := by
  intro k hk
  rw [show (t.extract a (a + n)).size = n by rw [ByteArray.size_extract]; omega] at hk
  rw [byteAt_extract (by omega) h]
  exact hd k hk
set_option maxRecDepth 100000 in
set_option maxHeartbeats 2000000 in
theorem numberAt_c (t : ByteArray) (a : Nat) (w : World) (ha : a < t.size) (ht : t.size ≤ 2000) :
    Calls Tryd.prog 126 #[.string t, .int .i64 (a : Int)] w (ScanE (numTok t a) a w) := by
  have hle := span_le digB t a
  have HD := Lib.hid (fun k (hk : k < span digB t a) => span_all hk)
  have HBIG := Lib.hid (fun h => num_big (t := t) (a := a) h)
  have HPL := Lib.hid (fun h h2 => num_plain (t := t) (a := a) h h2)
  have HBP := Lib.hid (fun h h2 h3 => num_badp (t := t) (a := a) h h2 h3)
  have HFR := Lib.hid (fun h h2 h3 => num_frac (t := t) (a := a) h h2 h3)
  have HSP := Lib.hid (fun b cap W (hr : Sl W b 1 1 (intAt [2])) => spanOf_c digB t a b cap [2] 1 (Lib.hid rfl) W hr digs_kind (by omega) (by omega) (by omega))
  generalize numTok t a = R at *
  obtain ⟨n, hn⟩ : ∃ n, n = span digB t a := ⟨_, rfl⟩
  rw [← hn] at hle HD HBIG HPL HBP HFR HSP
  clear hn
  by_cases h4 : 4 < n
  · have h4' : (4 : Int) < (n : Int) := by omega
    have HE := Lib.hid (HBIG.out h4)
    go_enter Tryd.func126, Tryd.ntmps126
    go_wp2_with fail
    refine (HSP.out _ _ _ (sl_lit (l := [2]) (heap_at_new (by simp)))).mono ?_
    rintro e w' ⟨rfl, rfl⟩
    go_wp2
    refine bodyPost_ret (v := .tuple #[.agg #[.int .i64 0, .string ByteArray.empty, .int .i64 0, .int .i64 0], .iface 94 (.pointer (some ⟨w.heap.size + 1 + 1, 0, none⟩))]) (by simp [results, Tryd.results126, go_sem]; rfl) rfl ?_
    rw [HE.out]
    exact ⟨_, rfl, by omega, by simp [go_sem], (by repeat (first | exact Below.refl _ _ | refine Below.drew ?_ | refine Below.alloc ?_ (by first | exact Nat.le_refl _ | (simp; done) | (simp; omega) | omega) _ | refine Below.more ?_ (by first | exact Nat.le_refl _ | (simp; done) | (simp; omega) | omega) _ _ | refine Below.setCell ?_ (by first | exact Nat.le_refl _ | (simp; done) | (simp; omega) | omega) _ | assumption))⟩
  have h4' : ¬ (4 : Int) < (n : Int) := by omega
  have e4 : 10 ^ 4 = 10000 := by decide
  have hv1 := valN_bd (t := t) (i := a) (n := n) (m := 4) HD.out (by omega)
  rw [e4] at hv1
  have HV1 := Lib.hid (fun W => valueOf_c (t.extract a (a + n)) (by rw [ByteArray.size_extract]; omega) (digs_sub (by omega) HD.out) W)
  rw [valN_sub (by omega)] at HV1
  have hle2 := span_le digB t (a + n + 1)
  have HD2 := Lib.hid (fun k (hk : k < span digB t (a + n + 1)) => span_all hk)
  have HSP2 := Lib.hid (fun (hx : a + n < t.size) b cap W (hr : Sl W b 1 1 (intAt [2])) => spanOf_c digB t (a + n + 1) b cap [2] 1 (Lib.hid rfl) W hr digs_kind (by omega) (by omega) (by omega))
  obtain ⟨v1, hv⟩ : ∃ v, v = valN t a n := ⟨_, rfl⟩
  rw [← hv] at hv1 HV1 HPL HFR
  clear hv HBIG HD
  obtain ⟨E2, hE2⟩ : ∃ E, E = a + n := ⟨_, rfl⟩
  rw [← hE2] at HV1 HPL HBP HFR hle2 HD2 HSP2
  have k1 : a ≤ E2 := by omega
  have k2 : E2 ≤ t.size := by omega
  have hw1 : IntKind.i64.wrap ((a : Int) + (n : Int)) = (E2 : Int) := by rw [IntWalk.i64_in _ (by omega)]; omega
  have sl1 : ∀ W : World, (Instr.slice 9 (.string t) (some (.int .i64 (a : Int))) (some (.int .i64 (E2 : Int))) none).run Tryd.prog W = .ok (.string (t.extract a E2)) W := fun W => by
    rw [run_slice_string W _ t .i64 .i64 a E2 Tryd.underlying9 (by omega) (by omega) (by omega)]; rfl
  clear hE2 hle
  obtain ⟨V1, hV1⟩ : ∃ V, V = v1 * 256 := ⟨_, rfl⟩
  rw [← hV1] at HPL HFR
  have hwv : IntKind.i64.wrap ((v1 : Int) * 256) = (V1 : Int) := by rw [IntWalk.i64_in _ (by omega)]; omega
  have hV1b : V1 ≤ 2560000 := by omega
  clear hV1 hv1
  generalize t.extract a E2 = x1 at *
  by_cases hlt : E2 < t.size
  case neg =>
    have HE := Lib.hid (HPL.out h4 (fun q => hlt q.1))
    have hlt' : ¬ (E2 : Int) < (t.size : Int) := by omega
    go_enter Tryd.func126, Tryd.ntmps126
    go_wp2_with fail
    refine (HSP.out _ _ _ (sl_lit (l := [2]) (heap_at_new (by simp)))).mono ?_
    rintro e w' ⟨rfl, rfl⟩
    go_wp2_with fail
    refine (HV1.out _).mono ?_
    rintro e wn ⟨rfl, hbn⟩; obtain ⟨X, nX, rfl⟩ := Below.ext hbn; clear hbn
    go_wp2
    refine bodyPost_ret (v := .tuple #[.agg #[.int .i64 1, .string x1, .int .i64 (V1 : Int), .int .i64 (a : Int)], .nilIface]) (by simp [results, Tryd.results126, go_sem]) rfl ?_
    rw [HE.out]
    exact ⟨rfl, (by repeat (first | exact Below.refl _ _ | refine Below.drew ?_ | refine Below.alloc ?_ (by first | exact Nat.le_refl _ | (simp; done) | (simp; omega) | omega) _ | refine Below.more ?_ (by first | exact Nat.le_refl _ | (simp; done) | (simp; omega) | omega) _ _ | refine Below.setCell ?_ (by first | exact Nat.le_refl _ | (simp; done) | (simp; omega) | omega) _ | assumption))⟩
  have hlt' : (E2 : Int) < (t.size : Int) := by omega
  have ix : ∀ (w : World), (Instr.index 9 (.string t) (.int .i64 (E2 : Int))).run Tryd.prog w = .ok (.int .u8 (byteAt t E2)) w := fun w => by
    rw [run_index_string w _ t .i64 _ Tryd.underlying9, dif_pos ⟨by omega, by omega⟩]
    simp only [Int.toNat_natCast, byteAt_eq hlt]
  by_cases hdot : byteAt t E2 = 46
  case neg =>
    have HE := Lib.hid (HPL.out h4 (fun q => hdot q.2))
    have hd : ((byteAt t E2 : Int) == 46) = false := by rw [beq_eq_false_iff_ne]; omega
    clear HPL HBP HFR hdot
    generalize byteAt t E2 = c at *
    go_enter Tryd.func126, Tryd.ntmps126
    go_wp2_with fail
    refine (HSP.out _ _ _ (sl_lit (l := [2]) (heap_at_new (by simp)))).mono ?_
    rintro e w' ⟨rfl, rfl⟩
    go_wp2_with fail
    refine (HV1.out _).mono ?_
    rintro e wn ⟨rfl, hbn⟩; obtain ⟨X, nX, rfl⟩ := Below.ext hbn; clear hbn
    go_wp2
    refine bodyPost_ret (v := .tuple #[.agg #[.int .i64 1, .string x1, .int .i64 (V1 : Int), .int .i64 (a : Int)], .nilIface]) (by simp [results, Tryd.results126, go_sem]) rfl ?_
    rw [HE.out]
    exact ⟨rfl, (by repeat (first | exact Below.refl _ _ | refine Below.drew ?_ | refine Below.alloc ?_ (by first | exact Nat.le_refl _ | (simp; done) | (simp; omega) | omega) _ | refine Below.more ?_ (by first | exact Nat.le_refl _ | (simp; done) | (simp; omega) | omega) _ _ | refine Below.setCell ?_ (by first | exact Nat.le_refl _ | (simp; done) | (simp; omega) | omega) _ | assumption))⟩
  have HBP2 := Lib.hid (HBP.out h4 ⟨hlt, hdot⟩)
  have HFR2 := Lib.hid (HFR.out h4 ⟨hlt, hdot⟩)
  rw [hdot] at ix
  replace HSP2 := Lib.hid (HSP2.out hlt)
  have ix2 : ∀ (w : World), (Instr.index 9 (.string t) (.int .i64 (E2 : Int))).run Tryd.prog w = .ok (.int .u8 46) w := ix
  clear ix HPL HBP HFR hdot
  obtain ⟨m, hm⟩ : ∃ m, m = span digB t (E2 + 1) := ⟨_, rfl⟩
  rw [← hm] at hle2 HD2 HSP2 HBP2 HFR2
  clear hm
  obtain ⟨E3, hE3⟩ : ∃ E, E = E2 + 1 := ⟨_, rfl⟩
  rw [← hE3] at hle2 HD2 HSP2 HFR2
  have hw2 : IntKind.i64.wrap ((E2 : Int) + 1) = (E3 : Int) := by rw [IntWalk.i64_in _ (by omega)]; omega
  by_cases hm1 : m < 1
  · have HE := Lib.hid (HBP2.out (.inl hm1))
    have hm1' : (m : Int) < 1 := by omega
    clear hE3 HFR2 HBP2
    go_enter Tryd.func126, Tryd.ntmps126
    go_wp2_with fail
    refine (HSP.out _ _ _ (sl_lit (l := [2]) (heap_at_new (by simp)))).mono ?_
    rintro e w' ⟨rfl, rfl⟩
    go_wp2_with fail
    refine (HV1.out _).mono ?_
    rintro e wn ⟨rfl, hbn⟩; obtain ⟨X, nX, rfl⟩ := Below.ext hbn; clear hbn
    go_wp2_with fail
    refine (HSP2.out _ _ _ (sl_lit (l := [2]) (heap_at_new (by simp)))).mono ?_
    rintro e w' ⟨rfl, rfl⟩
    go_wp2
    refine bodyPost_ret (v := .tuple #[.agg #[.int .i64 0, .string ByteArray.empty, .int .i64 0, .int .i64 0], .iface 94 (.pointer (some ⟨w.heap.size + 1 + 1 + X.size + 1, 0, none⟩))]) (by simp [results, Tryd.results126, go_sem]; rfl) rfl ?_
    rw [HE.out]
    exact ⟨_, rfl, by omega, by simp [go_sem], (by repeat (first | exact Below.refl _ _ | refine Below.drew ?_ | refine Below.alloc ?_ (by first | exact Nat.le_refl _ | (simp; done) | (simp; omega) | omega) _ | refine Below.more ?_ (by first | exact Nat.le_refl _ | (simp; done) | (simp; omega) | omega) _ _ | refine Below.setCell ?_ (by first | exact Nat.le_refl _ | (simp; done) | (simp; omega) | omega) _ | assumption))⟩
  have hm1' : ¬ (m : Int) < 1 := by omega
  by_cases hm2 : 4 < m
  · have HE := Lib.hid (HBP2.out (.inr hm2))
    have hm2' : (4 : Int) < (m : Int) := by omega
    clear hE3 HFR2 HBP2
    go_enter Tryd.func126, Tryd.ntmps126
    go_wp2_with fail
    refine (HSP.out _ _ _ (sl_lit (l := [2]) (heap_at_new (by simp)))).mono ?_
    rintro e w' ⟨rfl, rfl⟩
    go_wp2_with fail
    refine (HV1.out _).mono ?_
    rintro e wn ⟨rfl, hbn⟩; obtain ⟨X, nX, rfl⟩ := Below.ext hbn; clear hbn
    go_wp2_with fail
    refine (HSP2.out _ _ _ (sl_lit (l := [2]) (heap_at_new (by simp)))).mono ?_
    rintro e w' ⟨rfl, rfl⟩
    go_wp2
    refine bodyPost_ret (v := .tuple #[.agg #[.int .i64 0, .string ByteArray.empty, .int .i64 0, .int .i64 0], .iface 94 (.pointer (some ⟨w.heap.size + 1 + 1 + X.size + 1, 0, none⟩))]) (by simp [results, Tryd.results126, go_sem]; rfl) rfl ?_
    rw [HE.out]
    exact ⟨_, rfl, by omega, by simp [go_sem], (by repeat (first | exact Below.refl _ _ | refine Below.drew ?_ | refine Below.alloc ?_ (by first | exact Nat.le_refl _ | (simp; done) | (simp; omega) | omega) _ | refine Below.more ?_ (by first | exact Nat.le_refl _ | (simp; done) | (simp; omega) | omega) _ _ | refine Below.setCell ?_ (by first | exact Nat.le_refl _ | (simp; done) | (simp; omega) | omega) _ | assumption))⟩
  have hm2' : ¬ (4 : Int) < (m : Int) := by omega
  have HE := Lib.hid (HFR2.out (by omega))
  clear HFR2 HBP2
  have hv2 := valN_bd (t := t) (i := E3) (n := m) (m := 4) HD2.out (by omega)
  rw [e4] at hv2
  have HV2 := Lib.hid (fun W => valueOf_c (t.extract E3 (E3 + m)) (by rw [ByteArray.size_extract]; omega) (digs_sub (by omega) HD2.out) W)
  rw [valN_sub (by omega)] at HV2
  obtain ⟨v2, hvv⟩ : ∃ v, v = valN t E3 m := ⟨_, rfl⟩
  rw [← hvv] at hv2 HV2 HE
  obtain ⟨E4, hE4⟩ : ∃ E, E = E3 + m := ⟨_, rfl⟩
  rw [← hE4] at HV2 HE
  obtain ⟨V2, hV2⟩ : ∃ V, V = v2 * 256 := ⟨_, rfl⟩
  rw [← hV2] at HE
  obtain ⟨P, hP⟩ : ∃ P, P = 10 ^ m := ⟨_, rfl⟩
  have HPW := Lib.hid (fun W => power_k m (by omega) W)
  rw [← hP] at HE HPW
  have hP1 : 1 ≤ P := by rw [hP]; exact Nat.one_le_pow _ _ (by decide)
  obtain ⟨Q, hQ⟩ : ∃ Q, Q = V2 / P := ⟨_, rfl⟩
  rw [← hQ] at HE
  have hQ2 : Q ≤ V2 := by rw [hQ]; exact Nat.div_le_self _ _
  have q1 : (V2 : Int) / (P : Int) = (Q : Int) := by rw [hQ, Int.natCast_ediv]
  have q2 : (V2 : Int).tdiv (P : Int) = (Q : Int) := by rw [Int.tdiv_eq_ediv_of_nonneg (by omega)]; exact q1
  have hQb : Q ≤ 2560000 := by omega
  obtain ⟨VT, hVT⟩ : ∃ V, V = V1 + Q := ⟨_, rfl⟩
  rw [← hVT] at HE
  obtain ⟨M1, hM1⟩ : ∃ M, M = 1 + m := ⟨_, rfl⟩
  have hw3 : IntKind.i64.wrap ((E3 : Int) + (m : Int)) = (E4 : Int) := by rw [IntWalk.i64_in _ (by omega)]; omega
  have hw4 : IntKind.i64.wrap (1 + (m : Int)) = (M1 : Int) := by rw [IntWalk.i64_in _ (by omega)]; omega
  have hw5 : IntKind.i64.wrap ((E2 : Int) + (M1 : Int)) = (E4 : Int) := by rw [IntWalk.i64_in _ (by omega)]; omega
  have hw6 : IntKind.i64.wrap ((v2 : Int) * 256) = (V2 : Int) := by rw [IntWalk.i64_in _ (by omega)]; omega
  have hw7 : IntKind.i64.wrap (Q : Int) = (Q : Int) := IntWalk.i64_in _ (by omega)
  have hw8 : IntKind.i64.wrap ((V1 : Int) + (Q : Int)) = (VT : Int) := by rw [IntWalk.i64_in _ (by omega)]; omega
  have P0 : ¬ (P : Int) = 0 := by omega
  have P0' : ((P : Int) == 0) = false := by rw [beq_eq_false_iff_ne]; omega
  have P0'' : ¬ P = 0 := by omega
  have sl2 : ∀ W : World, (Instr.slice 9 (.string t) (some (.int .i64 (E3 : Int))) (some (.int .i64 (E4 : Int))) none).run Tryd.prog W = .ok (.string (t.extract E3 E4)) W := fun W => by
    rw [run_slice_string W _ t .i64 .i64 E3 E4 Tryd.underlying9 (by omega) (by omega) (by omega)]; rfl
  have sl3 : ∀ W : World, (Instr.slice 9 (.string t) (some (.int .i64 (a : Int))) (some (.int .i64 (E4 : Int))) none).run Tryd.prog W = .ok (.string (t.extract a E4)) W := fun W => by
    rw [run_slice_string W _ t .i64 .i64 a E4 Tryd.underlying9 (by omega) (by omega) (by omega)]; rfl
  clear hE3 hE4 hV2 hP hQ hVT hM1 hvv
  generalize t.extract E3 E4 = x2 at *
  generalize t.extract a E4 = x3 at *
  go_enter Tryd.func126, Tryd.ntmps126
  go_wp2_with fail
  refine (HSP.out _ _ _ (sl_lit (l := [2]) (heap_at_new (by simp)))).mono ?_
  rintro e w' ⟨rfl, rfl⟩
  go_wp2_with fail
  refine (HV1.out _).mono ?_
  rintro e wn ⟨rfl, hbn⟩; obtain ⟨X, nX, rfl⟩ := Below.ext hbn; clear hbn
  go_wp2_with fail
  refine (HSP2.out _ _ _ (sl_lit (l := [2]) (heap_at_new (by simp)))).mono ?_
  rintro e w' ⟨rfl, rfl⟩
  go_wp2_with fail
  refine (HV2.out _).mono ?_
  rintro e wn ⟨rfl, hbn⟩; obtain ⟨X, nX, rfl⟩ := Below.ext hbn; clear hbn
  go_wp2_with fail
  refine (HPW.out _).mono ?_
  rintro e w' ⟨rfl, rfl⟩
  go_wp2
  refine bodyPost_ret (v := .tuple #[.agg #[.int .i64 1, .string x3, .int .i64 (VT : Int), .int .i64 (a : Int)], .nilIface]) (by simp [results, Tryd.results126, go_sem]) rfl ?_
  rw [HE.out]
  exact ⟨rfl, (by repeat (first | exact Below.refl _ _ | refine Below.drew ?_ | refine Below.alloc ?_ (by first | exact Nat.le_refl _ | (simp; done) | (simp; omega) | omega) _ | refine Below.more ?_ (by first | exact Nat.le_refl _ | (simp; done) | (simp; omega) | omega) _ _ | refine Below.setCell ?_ (by first | exact Nat.le_refl _ | (simp; done) | (simp; omega) | omega) _ | assumption))⟩
end Go.Proofs.YtdkjiafdfenbkaaDoor
