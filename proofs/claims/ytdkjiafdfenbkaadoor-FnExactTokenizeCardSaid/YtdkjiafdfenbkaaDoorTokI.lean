/- The program's Tokenize walked. -/
import Derived.Test.YtdkjiafdfenbkaaDoorScanT
import Derived.Test.YtdkjiafdfenbkaaDoorTokA
import Derived.Test.YtdkjiafdfenbkaaDoorAs
import Derived.Test.YtdkjiafdfenbkaaDoorApp3
namespace Go.Proofs.YtdkjiafdfenbkaaDoor
open Go Go.RowKit
set_option linter.unusedVariables false
theorem scan_dig {t : ByteArray} {a : Nat} (h : digB (byteAt t a) = true) : scanT t a = numTok t a := by unfold scanT numTok; rw [if_pos h]; cases numS t a <;> rfl
theorem scan_let {t : ByteArray} {a : Nat} (h1 : digB (byteAt t a) = false) (h : letB (byteAt t a) = true) : scanT t a = if 8 < span alnB t a then none else some ⟨2, t.extract a (a + span alnB t a), 0, a⟩ := by unfold scanT; rw [if_neg (by simp [h1]), if_pos h]
theorem scan_sym {t : ByteArray} {a : Nat} (h1 : digB (byteAt t a) = false) (h2 : letB (byteAt t a) = false) (h : symB (byteAt t a) = true) : scanT t a = some ⟨3, t.extract a (a + 1), 0, a⟩ := by unfold scanT; rw [if_neg (by simp [h1]), if_neg (by simp [h2]), if_pos h]
theorem scan_no {t : ByteArray} {a : Nat} (h1 : digB (byteAt t a) = false) (h2 : letB (byteAt t a) = false) (h : symB (byteAt t a) = false) : scanT t a = none := by unfold scanT; rw [if_neg (by simp [h1]), if_neg (by simp [h2]), if_neg (by simp [h])]
theorem dig_not_let {c : Nat} (h : digB c = true) : letB c = false := by simp only [digB, decide_eq_true_eq] at h; simp only [letB, decide_eq_false_iff_not]; omega
theorem let_not_dig {c : Nat} (h : letB c = true) : digB c = false := by simp only [letB, decide_eq_true_eq] at h; simp only [digB, decide_eq_false_iff_not]; omega
theorem sym_kind {c : Nat} (h1 : spB c = false) (h2 : digB c = false) (h3 : letB c = false) : kindN c = if symB c then 4 else 0 := by unfold kindN; rw [h1, h2, h3]; rfl
theorem sp_sym : ∀ c, c < 256 → symB c = true → spB c = false := by decide +kernel
set_option maxRecDepth 100000 in
set_option maxHeartbeats 2000000 in
theorem tokenAt_c (t : ByteArray) (a : Nat) (w : World) (ha : a < t.size) (ht : t.size ≤ 2000) (hsp : spB (byteAt t a) = false) :
    Calls Tryd.prog 95 #[.string t, .int .i64 (a : Int)] w (ScanE (scanT t a) a w) := by
  have ix : ∀ (w : World), (Instr.index 9 (.string t) (.int .i64 (a : Int))).run Tryd.prog w = .ok (.int .u8 (byteAt t a)) w := fun w => by
    rw [run_index_string w _ t .i64 _ Tryd.underlying9, dif_pos ⟨by omega, by omega⟩]
    simp only [Int.toNat_natCast, byteAt_eq ha]
  have hcl := byteAt_lt t a
  have HKC := Lib.hid (fun W => kindOf_c (byteAt t a) hcl W)
  cases hd : digB (byteAt t a)
  case true =>
    have hk := kind_dig.2 hd
    rw [hk] at HKC
    have HN := Lib.hid (fun W => numberAt_c t a W ha ht)
    rw [scan_dig hd]
    generalize byteAt t a = c at *
    clear hk hd hsp
    generalize numTok t a = R at *
    go_enter Tryd.func95, Tryd.ntmps95
    go_wp2_with fail
    refine (HKC.out _).mono ?_
    rintro e w' ⟨rfl, rfl⟩
    go_wp2_with fail
    refine (HN.out _).mono ?_
    cases R with
    | some k =>
      obtain ⟨f0, f1, f2, f3⟩ := k
      rintro e wn ⟨rfl, hbn⟩; obtain ⟨X, nX, rfl⟩ := Below.ext hbn; clear hbn
      go_wp2
      exact bodyPost_ret (v := .tuple #[.agg #[.int .i64 f0, .string f1, .int .i64 f2, .int .i64 f3], .nilIface]) (by simp [results, Tryd.results95, go_sem]) rfl ⟨rfl, (by repeat (first | exact Below.refl _ _ | refine Below.drew ?_ | refine Below.alloc ?_ (by first | exact Nat.le_refl _ | (simp; done) | (simp; omega) | omega) _ | refine Below.more ?_ (by first | exact Nat.le_refl _ | (simp; done) | (simp; omega) | omega) _ _ | refine Below.setCell ?_ (by first | exact Nat.le_refl _ | (simp; done) | (simp; omega) | omega) _ | assumption))⟩
    | none =>
      rintro e wn ⟨b, rfl, hbs, hc, hbn⟩
      obtain ⟨X, nX, rfl⟩ := Below.ext hbn
      have hlt := World.block_lt_of_cell? _ _ hc
      have hbs2 : w.heap.size + 1 ≤ b := by simpa using hbs
      have HC := Lib.hid hc
      clear hbn hc hbs
      go_wp2
      refine bodyPost_ret (v := .tuple #[.agg #[.int .i64 0, .string ByteArray.empty, .int .i64 0, .int .i64 0], .iface 94 (.pointer (some ⟨b, 0, none⟩))]) (by simp [results, Tryd.results95, go_sem]; try rfl) rfl ?_
      exact ⟨_, rfl, by omega, HC.out, (by repeat (first | exact Below.refl _ _ | refine Below.drew ?_ | refine Below.alloc ?_ (by first | exact Nat.le_refl _ | (simp; done) | (simp; omega) | omega) _ | refine Below.more ?_ (by first | exact Nat.le_refl _ | (simp; done) | (simp; omega) | omega) _ _ | refine Below.setCell ?_ (by first | exact Nat.le_refl _ | (simp; done) | (simp; omega) | omega) _ | assumption))⟩
  case false =>
    cases hl : letB (byteAt t a)
    case true =>
      have hk := kind_let.2 hl
      rw [hk] at HKC
      have hsc := scan_let hd hl
      have hle := span_le alnB t a
      have HSP := Lib.hid (fun b cap W (hr : Sl W b 1 2 (intAt [3, 2])) => spanOf_c alnB t a b cap [3, 2] 2 (Lib.hid rfl) W hr aln_kind (by omega) (by omega) (by omega))
      generalize byteAt t a = c at *
      clear hk hd hl hsp
      generalize scanT t a = R at *
      generalize span alnB t a = n at *
      by_cases h8 : 8 < n
      · rw [if_pos h8] at hsc
        have HE := Lib.hid hsc
        have h8' : (8 : Int) < (n : Int) := by omega
        clear hsc
        go_enter Tryd.func95, Tryd.ntmps95
        go_wp2_with fail
        refine (HKC.out _).mono ?_
        rintro e w' ⟨rfl, rfl⟩
        go_wp2_with fail
        refine (HSP.out _ _ _ (sl_lit (l := [3, 2]) (heap_at_new (by simp)))).mono ?_
        rintro e w' ⟨rfl, rfl⟩
        go_wp2
        refine bodyPost_ret (v := .tuple #[.agg #[.int .i64 0, .string ByteArray.empty, .int .i64 0, .int .i64 0], .iface 94 (.pointer (some ⟨w.heap.size + 1 + 1, 0, none⟩))]) (by simp [results, Tryd.results95, go_sem]; rfl) rfl ?_
        rw [HE.out]
        exact ⟨_, rfl, by omega, by simp [go_sem], (by repeat (first | exact Below.refl _ _ | refine Below.drew ?_ | refine Below.alloc ?_ (by first | exact Nat.le_refl _ | (simp; done) | (simp; omega) | omega) _ | refine Below.more ?_ (by first | exact Nat.le_refl _ | (simp; done) | (simp; omega) | omega) _ _ | refine Below.setCell ?_ (by first | exact Nat.le_refl _ | (simp; done) | (simp; omega) | omega) _ | assumption))⟩
      · rw [if_neg h8] at hsc
        obtain ⟨E, hE⟩ : ∃ E, E = a + n := ⟨_, rfl⟩
        rw [← hE] at hsc
        have HE := Lib.hid hsc
        have h8' : ¬ (8 : Int) < (n : Int) := by omega
        have hw1 : IntKind.i64.wrap ((a : Int) + (n : Int)) = (E : Int) := by rw [IntWalk.i64_in _ (by omega)]; omega
        have sl1 : ∀ W : World, (Instr.slice 9 (.string t) (some (.int .i64 (a : Int))) (some (.int .i64 (E : Int))) none).run Tryd.prog W = .ok (.string (t.extract a E)) W := fun W => by
          rw [run_slice_string W _ t .i64 .i64 a E Tryd.underlying9 (by omega) (by omega) (by omega)]; rfl
        clear hsc hE
        generalize t.extract a E = x at *
        go_enter Tryd.func95, Tryd.ntmps95
        go_wp2_with fail
        refine (HKC.out _).mono ?_
        rintro e w' ⟨rfl, rfl⟩
        go_wp2_with fail
        refine (HSP.out _ _ _ (sl_lit (l := [3, 2]) (heap_at_new (by simp)))).mono ?_
        rintro e w' ⟨rfl, rfl⟩
        go_wp2
        refine bodyPost_ret (v := .tuple #[.agg #[.int .i64 2, .string x, .int .i64 0, .int .i64 (a : Int)], .nilIface]) (by simp [results, Tryd.results95, go_sem]) rfl ?_
        rw [HE.out]
        exact ⟨rfl, (by repeat (first | exact Below.refl _ _ | refine Below.drew ?_ | refine Below.alloc ?_ (by first | exact Nat.le_refl _ | (simp; done) | (simp; omega) | omega) _ | refine Below.more ?_ (by first | exact Nat.le_refl _ | (simp; done) | (simp; omega) | omega) _ _ | refine Below.setCell ?_ (by first | exact Nat.le_refl _ | (simp; done) | (simp; omega) | omega) _ | assumption))⟩
    case false =>
      rw [sym_kind hsp hd hl] at HKC
      cases hs : symB (byteAt t a)
      case true =>
        have HE := Lib.hid (scan_sym hd hl hs)
        rw [hs] at HKC
        obtain ⟨E, hE⟩ : ∃ E, E = a + 1 := ⟨_, rfl⟩
        rw [← hE] at HE
        have hw1 : IntKind.i64.wrap ((a : Int) + 1) = (E : Int) := by rw [IntWalk.i64_in _ (by omega)]; omega
        have sl1 : ∀ W : World, (Instr.slice 9 (.string t) (some (.int .i64 (a : Int))) (some (.int .i64 (E : Int))) none).run Tryd.prog W = .ok (.string (t.extract a E)) W := fun W => by
          rw [run_slice_string W _ t .i64 .i64 a E Tryd.underlying9 (by omega) (by omega) (by omega)]; rfl
        generalize byteAt t a = c at *
        clear hd hl hs hsp hE
        generalize scanT t a = R at *
        generalize t.extract a E = x at *
        go_enter Tryd.func95, Tryd.ntmps95
        go_wp2_with fail
        refine (HKC.out _).mono ?_
        rintro e w' ⟨rfl, rfl⟩
        go_wp2
        refine bodyPost_ret (v := .tuple #[.agg #[.int .i64 3, .string x, .int .i64 0, .int .i64 (a : Int)], .nilIface]) (by simp [results, Tryd.results95, go_sem]) rfl ?_
        rw [HE.out]
        exact ⟨rfl, (by repeat (first | exact Below.refl _ _ | refine Below.drew ?_ | refine Below.alloc ?_ (by first | exact Nat.le_refl _ | (simp; done) | (simp; omega) | omega) _ | refine Below.more ?_ (by first | exact Nat.le_refl _ | (simp; done) | (simp; omega) | omega) _ _ | refine Below.setCell ?_ (by first | exact Nat.le_refl _ | (simp; done) | (simp; omega) | omega) _ | assumption))⟩
      case false =>
        have HE := Lib.hid (scan_no hd hl hs)
        rw [hs] at HKC
        generalize byteAt t a = c at *
        clear hd hl hs hsp
        generalize scanT t a = R at *
        go_enter Tryd.func95, Tryd.ntmps95
        go_wp2_with fail
        refine (HKC.out _).mono ?_
        rintro e w' ⟨rfl, rfl⟩
        go_wp2
        refine bodyPost_ret (v := .tuple #[.agg #[.int .i64 0, .string ByteArray.empty, .int .i64 0, .int .i64 0], .iface 94 (.pointer (some ⟨w.heap.size + 1, 0, none⟩))]) (by simp [results, Tryd.results95, go_sem]; rfl) rfl ?_
        rw [HE.out]
        exact ⟨_, rfl, by omega, by simp [go_sem], (by repeat (first | exact Below.refl _ _ | refine Below.drew ?_ | refine Below.alloc ?_ (by first | exact Nat.le_refl _ | (simp; done) | (simp; omega) | omega) _ | refine Below.more ?_ (by first | exact Nat.le_refl _ | (simp; done) | (simp; omega) | omega) _ _ | refine Below.setCell ?_ (by first | exact Nat.le_refl _ | (simp; done) | (simp; omega) | omega) _ | assumption))⟩
/-- Tokens of one's own and no error, or an error that holds a place. -/
def TokE (o : Except Nat (List TokenD)) (w : World) (e : Ending) (w' : World) : Prop :=
  match o with
  | .ok L => ∃ a cap, e = .returned (.tuple #[.slice a L.length cap, .nilIface]) ∧ Ow w' w.heap.size w'.heap.size a 4 L.length (TokenD.at L) ∧ Below w.heap.size w w'
  | .error j => ∃ b, e = .returned (.tuple #[.slice none 0 0, .iface 94 (.pointer (some ⟨b, 0, none⟩))]) ∧ w.heap.size ≤ b ∧ w'.cell? ⟨b, 0, none⟩ = some (.int .i64 (j : Int)) ∧ Below w.heap.size w w'
set_option maxRecDepth 100000 in
set_option maxHeartbeats 2000000 in
theorem tokenize_c (t : ByteArray) (w : World) : Calls Tryd.prog 59 #[.string t] w (TokE (tokR t) w) := by
  by_cases hbig : 2000 < t.size
  · have HE := Lib.hid (show tokR t = .error 0 by unfold tokR; rw [if_pos hbig])
    have hb' : (2000 : Int) < (t.size : Int) := by omega
    go_enter Tryd.func59, Tryd.ntmps59
    go_wp2
    refine bodyPost_ret (v := .tuple #[.slice none 0 0, .iface 94 (.pointer (some ⟨w.heap.size + 1, 0, none⟩))]) (by simp [results, Tryd.results59, go_sem]) rfl ?_
    rw [HE.out]
    exact ⟨_, rfl, by omega, by simp [go_sem], (by repeat (first | exact Below.refl _ _ | refine Below.drew ?_ | refine Below.alloc ?_ (by first | exact Nat.le_refl _ | (simp; done) | (simp; omega) | omega) _ | refine Below.more ?_ (by first | exact Nat.le_refl _ | (simp; done) | (simp; omega) | omega) _ _ | refine Below.setCell ?_ (by first | exact Nat.le_refl _ | (simp; done) | (simp; omega) | omega) _ | assumption))⟩
  have hb' : ¬ (2000 : Int) < (t.size : Int) := by omega
  have HST := Lib.hid (Run.start (t := t) (by omega))
  go_enter Tryd.func59, Tryd.ntmps59
  go_wp2
  go_loopw [4, 5] (fun out u wr => ∃ (a : Nat) (L : List TokenD), u = .int .i64 a ∧ Run t L a ∧ L.length ≤ a ∧ Below w.heap.size w wr ∧ wr.ownsRow w.heap.size 87 4 out L.length (tokC L)) (fun _ u _ => t.size - (intOf u).toNat)
  case atStart => exact ⟨0, [], rfl, HST.out, Nat.zero_le _, (by repeat (first | exact Below.refl _ _ | refine Below.drew ?_ | refine Below.alloc ?_ (by first | exact Nat.le_refl _ | (simp; done) | (simp; omega) | omega) _ | refine Below.more ?_ (by first | exact Nat.le_refl _ | (simp; done) | (simp; omega) | omega) _ _ | refine Below.setCell ?_ (by first | exact Nat.le_refl _ | (simp; done) | (simp; omega) | omega) _ | assumption)), by simpa [tokC, flat] using World.ownsRow_made (e := 87) (size := 4) w #[] 0 (Nat.le_refl _) (by decide) (by simp)⟩
  case round =>
    clear HST
    obtain ⟨a, L, rfl, hrun, hLa, hbel, hown⟩ := hrel
    have hat := hrun.1
    have HRUN := Lib.hid hrun
    have HBEL := Lib.hid hbel
    have HOWN := Lib.hid hown
    have hbs := hbel.size
    clear hrun hbel hown
    by_cases hlt : a < t.size
    · have hlt' : (a : Int) < (t.size : Int) := by omega
      have ix : ∀ (w : World), (Instr.index 9 (.string t) (.int .i64 (a : Int))).run Tryd.prog w = .ok (.int .u8 (byteAt t a)) w := fun w => by
        rw [run_index_string w _ t .i64 _ Tryd.underlying9, dif_pos ⟨by omega, by omega⟩]
        simp only [Int.toNat_natCast, byteAt_eq hlt]
      have hcl := byteAt_lt t a
      have HKC := Lib.hid (fun W => kindOf_c (byteAt t a) hcl W)
      cases hsp : spB (byteAt t a)
      case true =>
        have HR2 := Lib.hid (HRUN.out.space hlt hsp)
        rw [kind_sp.2 hsp] at HKC
        clear hsp
        generalize byteAt t a = c at *
        go_wp2_with fail
        refine (HKC.out _).mono ?_
        rintro e w' ⟨rfl, rfl⟩
        go_wp2
        exact ⟨⟨a + 1, L, by first | rfl | go_num, HR2.out, by omega, HBEL.out, HOWN.out⟩, by simp only [intOf]; omega⟩
      case false =>
        have hk1 : ¬ kindN (byteAt t a) = 1 := fun h => by rw [kind_sp.1 h] at hsp; cases hsp
        have hk2 : ((kindN (byteAt t a) : Int) == 1) = false := by rw [beq_eq_false_iff_ne]; omega
        have HTA := Lib.hid (fun W => tokenAt_c t a W hlt (by omega) hsp)
        have HTOK := Lib.hid (fun k h => HRUN.out.token (k := k) hlt (by rw [hsp]; simp) h)
        have HBAD := Lib.hid (fun h => HRUN.out.bad hlt (by rw [hsp]; simp) h)
        have HSZ := Lib.hid (fun k h => scanT_size (t := t) (a := a) (k := k) hlt h)
        clear hsp
        generalize kindN (byteAt t a) = K at *
        generalize byteAt t a = c at *
        cases hsc : scanT t a with
        | none =>
          have HE := Lib.hid (HBAD.out hsc)
          rw [hsc] at HTA
          clear hsc HBAD HTOK HSZ
          go_wp2_with fail
          refine (HKC.out _).mono ?_
          rintro e w' ⟨rfl, rfl⟩
          go_wp2_with fail
          refine (HTA.out _).mono ?_
          rintro e w2 ⟨b, rfl, hbs2, hc, hb2⟩
          have HB2 := Lib.hid hb2
          have HC := Lib.hid hc
          clear hb2 hc
          go_wp2
          refine bodyPost_ret (v := .tuple #[.slice none 0 0, .iface 94 (.pointer (some ⟨b, 0, none⟩))]) (by simp [results, Tryd.results59, go_sem]) rfl ?_
          rw [HE.out]
          have hbl := World.block_lt_of_cell? _ _ HC.out
          exact ⟨_, rfl, by omega, cell_below (Below.alloc (Below.refl _ _) (Nat.le_refl _) _) HC.out, Below.alloc (HBEL.out.trans (HB2.out.mono hbs)) (by have := HB2.out.size; omega) _⟩
        | some k =>
          have HR2 := Lib.hid (HTOK.out k hsc)
          obtain ⟨hz1, hz2⟩ := HSZ.out k hsc
          rw [hsc] at HTA
          clear hsc HBAD HTOK HSZ
          obtain ⟨f0, f1, f2, f3⟩ := k
          dsimp only at hz1 hz2
          go_wp2_with fail
          refine (HKC.out _).mono ?_
          rintro e w' ⟨rfl, rfl⟩
          go_wp2_with fail
          refine (HTA.out _).mono ?_
          rintro e w2 ⟨rfl, hb2⟩
          have HB2 := Lib.hid hb2
          have HO2 := Lib.hid (own_kept HOWN.out hb2)
          have hs2 := hb2.size
          clear hb2
          go_wp2_with (at_builtin; go_loud (refine wp_app_tok ((HBEL.out.trans (HB2.out.mono hbs)).trans ?b0) (own_kept HO2.out ?b1) ⟨f0, f1, f2, f3⟩ (by omega) rfl _ _ rfl rfl _ 1 rfl (by exact heap_at_new (by simp)) ?_))
          case b0 => exact (by repeat (first | exact Below.refl _ _ | refine Below.drew ?_ | refine Below.alloc ?_ (by first | exact Nat.le_refl _ | (simp; done) | (simp; omega) | omega) _ | refine Below.more ?_ (by first | exact Nat.le_refl _ | (simp; done) | (simp; omega) | omega) _ _ | refine Below.setCell ?_ (by first | exact Nat.le_refl _ | (simp; done) | (simp; omega) | omega) _ | assumption))
          case b1 => exact (by repeat (first | exact Below.refl _ _ | refine Below.drew ?_ | refine Below.alloc ?_ (by first | exact Nat.le_refl _ | (simp; done) | (simp; omega) | omega) _ | refine Below.more ?_ (by first | exact Nat.le_refl _ | (simp; done) | (simp; omega) | omega) _ _ | refine Below.setCell ?_ (by first | exact Nat.le_refl _ | (simp; done) | (simp; omega) | omega) _ | assumption))
          intro v' w' L' HLE hb3 ho3 hkeep
          have c1 := hkeep w2.heap.size 1 (.string f1) (fun q hq => by have := (HOWN.out.lt q hq).2; omega) (by simp [go_sem])
          have HB3 := Lib.hid hb3
          have HO3 := Lib.hid ho3
          have hwz : IntKind.i64.wrap ((a : Int) + (f1.size : Int)) = ((a + f1.size : Nat) : Int) := by rw [Int.natCast_add]; exact IntWalk.i64_in _ (by omega)
          clear hb3 ho3 hkeep
          go_wp2
          exact ⟨⟨a + f1.size, L', by first | rfl | go_num, by rw [HLE.out]; exact HR2.out, by rw [HLE.out, List.length_append, List.length_singleton]; omega, HB3.out, HO3.out⟩, by simp only [intOf]; omega⟩
    · have hlt' : ¬ (a : Int) < (t.size : Int) := by omega
      have HE := Lib.hid (HRUN.out.done hlt)
      go_wp2_with (at_builtin; go_loud (refine wp_app_tok (HBEL.out.trans ?b0) (own_kept HOWN.out ?b1) ⟨0, ByteArray.empty, 0, t.size⟩ (by omega) rfl _ _ rfl rfl _ 1 rfl (by exact heap_at_new (by simp)) ?_))
      case b0 => exact (by repeat (first | exact Below.refl _ _ | refine Below.drew ?_ | refine Below.alloc ?_ (by first | exact Nat.le_refl _ | (simp; done) | (simp; omega) | omega) _ | refine Below.more ?_ (by first | exact Nat.le_refl _ | (simp; done) | (simp; omega) | omega) _ _ | refine Below.setCell ?_ (by first | exact Nat.le_refl _ | (simp; done) | (simp; omega) | omega) _ | assumption))
      case b1 => exact (by repeat (first | exact Below.refl _ _ | refine Below.drew ?_ | refine Below.alloc ?_ (by first | exact Nat.le_refl _ | (simp; done) | (simp; omega) | omega) _ | refine Below.more ?_ (by first | exact Nat.le_refl _ | (simp; done) | (simp; omega) | omega) _ _ | refine Below.setCell ?_ (by first | exact Nat.le_refl _ | (simp; done) | (simp; omega) | omega) _ | assumption))
      intro v' w' L' HLE hb3 ho3 _
      rw [← HLE.out] at HE
      have HB3 := Lib.hid hb3
      obtain ⟨a', cap', rfl, ho⟩ := ow_of_ownsRow ho3 tokC_get
      have HO3 := Lib.hid ho
      clear hb3 ho3 ho
      go_wp2
      refine bodyPost_ret (v := .tuple #[.slice a' L'.length cap', .nilIface]) (by simp [results, Tryd.results59, go_sem]) rfl ?_
      rw [HE.out]
      exact ⟨a', cap', rfl, HO3.out, HB3.out⟩
/-- Tokens of one's own and a place. -/
def TokG (o : Except Nat (List TokenD)) (w : World) (e : Ending) (w' : World) : Prop :=
  ∃ a cap, e = .returned (.tuple #[.slice a (resL o).length cap, .int .i64 (resZ o)]) ∧ Ow w' w.heap.size w'.heap.size a 4 (resL o).length (TokenD.at (resL o)) ∧ Below w.heap.size w w'
set_option maxRecDepth 100000 in
set_option maxHeartbeats 2000000 in
theorem impl_Tokenize_c (t : ByteArray) (w : World) (hE : HandleE w) : Calls Tryd.prog 26 #[.string t] w (TokG (tokR t) w) := by
  have HT := Lib.hid (tokenize_c t)
  have HH := Lib.hid hE
  clear hE
  generalize tokR t = R at *
  go_enter Tryd.func26, Tryd.ntmps26
  go_wp2_with fail
  refine (HT.out _).mono ?_
  cases R with
  | ok L =>
    rintro e w1 ⟨a, cap, rfl, ho, hb⟩
    have HO := Lib.hid ho
    have HB := Lib.hid hb
    have hbs := hb.size
    clear ho hb
    go_wp2_with (go_at_call 60; refine (as_nil _ _).mono ?_; rintro e w2 ⟨rfl, rfl⟩)
    refine bodyPost_ret (v := .tuple #[.slice a L.length cap, .int .i64 (-1)]) (by simp [results, Tryd.results26, go_sem]) rfl ?_
    exact ⟨a, cap, rfl, (HO.out.below (by repeat (first | exact Below.refl _ _ | refine Below.drew ?_ | refine Below.alloc ?_ (by first | exact Nat.le_refl _ | (simp; done) | (simp; omega) | omega) _ | refine Below.more ?_ (by first | exact Nat.le_refl _ | (simp; done) | (simp; omega) | omega) _ _ | refine Below.setCell ?_ (by first | exact Nat.le_refl _ | (simp; done) | (simp; omega) | omega) _ | assumption))).wide (Nat.le_refl _) (by simp), Below.alloc HB.out hbs _⟩
  | error j =>
    rintro e w1 ⟨b, rfl, hbs, hc, hb⟩
    have HC := Lib.hid hc
    have HB := Lib.hid hb
    have hlt := World.block_lt_of_cell? _ _ hc
    have hb2 := hb.size
    have HG := Lib.hid ((HH.out.below hb).below (Below.alloc (Below.refl _ _) (Nat.le_refl _) (.cells #[.pointer none] 94)))
    clear hc hb
    go_wp2_with fail
    refine (as_hit ⟨b, 0, none⟩ ⟨w1.heap.size, 0, none⟩ (.pointer none) _ HG.out (by simp) (by simp)).mono ?_
    rintro e w2 ⟨rfl, hw2⟩
    have hbel : Below w1.heap.size w1 w2 := by
      rw [hw2]
      exact Below.setCell (Below.alloc (Below.alloc (Below.alloc (Below.alloc (Below.alloc (Below.refl _ _) (Nat.le_refl _) _) (by simp) _) (by simp; omega) _) (by simp; omega) _) (by simp; omega) _) (Nat.le_refl _) _
    have c0 := cell_below hbel HC.out
    have c6 : w2.cell? ⟨w1.heap.size, 0, none⟩ = some (.pointer (some ⟨b, 0, none⟩)) := by
      rw [hw2]
      simp [go_sem]
    have HB2 := Lib.hid (HB.out.trans (hbel.mono hb2))
    have hl6 : w1.heap.size < w2.heap.size := World.block_lt_of_cell? _ _ c6
    have hlb : b < w2.heap.size := World.block_lt_of_cell? _ _ c0
    clear hw2 hbel HG
    go_wp2
    (first | refine region_q2 (by kernel_rfl) (by kernel_rfl) ?_ | refine region_q (by kernel_rfl) (by kernel_rfl) ?_)
    repeat (quiet_step (fail))
    (refine wpQuiet_nil ?_; intro X nX)
    go_wp2
    refine bodyPost_ret (v := .tuple #[.slice none 0 0, .int .i64 (j : Int)]) (by simp [results, Tryd.results26, go_sem]) rfl ?_
    exact ⟨none, 0, rfl, Ow.none, HB2.out.trans (Below.wide (by repeat (first | exact Below.refl _ _ | refine Below.drew ?_ | refine Below.alloc ?_ (by first | exact Nat.le_refl _ | (simp; done) | (simp; omega) | omega) _ | refine Below.more ?_ (by first | exact Nat.le_refl _ | (simp; done) | (simp; omega) | omega) _ _ | refine Below.setCell ?_ (by first | exact Nat.le_refl _ | (simp; done) | (simp; omega) | omega) _ | assumption)) HB2.out.size)⟩
end Go.Proofs.YtdkjiafdfenbkaaDoor
