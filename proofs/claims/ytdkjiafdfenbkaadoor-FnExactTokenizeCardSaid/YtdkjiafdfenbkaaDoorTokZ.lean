/- The reference's Tokenize walked. -/
import Derived.Test.YtdkjiafdfenbkaaDoorTokY
import Derived.Test.YtdkjiafdfenbkaaDoorTokS
namespace Go.Proofs.YtdkjiafdfenbkaaDoor
open Go Go.RowKit
set_option linter.unusedVariables false
theorem l12Scan_c (t : ByteArray) (a : Nat) (w : World) (ha : a < t.size) (ht : t.size ≤ 2000) :
    Calls Tryd.prog 58 #[.string t, .int .i64 (a : Int)] w (ScnE t a w) := by
  cases hd : digB (byteAt t a)
  · cases hl : letB (byteAt t a)
    · cases hs : symB (byteAt t a)
      · exact l12Scan_no t a w ha ht hd hl hs
      · exact l12Scan_sym t a w ha ht hd hl hs
    · exact l12Scan_let t a w ha ht hd hl
  · exact l12Scan_dig t a w ha ht hd
/-- Tokens of one's own and a place. -/
def TokS (o : Except Nat (List TokenD)) (w : World) (e : Ending) (w' : World) : Prop :=
  ∃ a cap, e = .returned (.tuple #[.slice a (resL o).length cap, .int .i64 (resZ o)]) ∧ Ow w' w.heap.size w'.heap.size a 4 (resL o).length (TokenD.at (resL o)) ∧ Below w.heap.size w w'
set_option maxRecDepth 100000 in
set_option maxHeartbeats 2000000 in
theorem spec_Tokenize_c (t : ByteArray) (w : World) : Calls Tryd.prog 25 #[.string t] w (TokS (tokR t) w) := by
  by_cases hbig : 2000 < t.size
  · have HE := Lib.hid (show tokR t = .error 0 by unfold tokR; rw [if_pos hbig])
    have hb' : (2000 : Int) < (t.size : Int) := by omega
    go_enter Tryd.func25, Tryd.ntmps25
    go_wp2
    refine bodyPost_ret (v := .tuple #[.slice none 0 0, .int .i64 0]) (by simp [results, Tryd.results25, go_sem]) rfl ?_
    rw [HE.out]
    exact ⟨none, 0, rfl, Ow.none, (by repeat (first | exact Below.refl _ _ | refine Below.drew ?_ | refine Below.alloc ?_ (by first | exact Nat.le_refl _ | (simp; done) | (simp; omega) | omega) _ | refine Below.more ?_ (by first | exact Nat.le_refl _ | (simp; done) | (simp; omega) | omega) _ _ | refine Below.setCell ?_ (by first | exact Nat.le_refl _ | (simp; done) | (simp; omega) | omega) _ | assumption))⟩
  have hb' : ¬ (2000 : Int) < (t.size : Int) := by omega
  have HST := Lib.hid (Run.start (t := t) (by omega))
  go_enter Tryd.func25, Tryd.ntmps25
  go_wp2
  go_loopw [4, 5] (fun out u wr => ∃ (a : Nat) (L : List TokenD), u = .int .i64 a ∧ Run t L a ∧ L.length ≤ a ∧ Below w.heap.size w wr ∧ wr.ownsRow w.heap.size 87 4 out L.length (tokC L)) (fun _ u _ => t.size - (intOf u).toNat)
  case atStart => exact ⟨0, [], rfl, HST.out, Nat.zero_le _, (by repeat (first | exact Below.refl _ _ | refine Below.drew ?_ | refine Below.alloc ?_ (by first | exact Nat.le_refl _ | (simp; done) | (simp; omega) | omega) _ | refine Below.more ?_ (by first | exact Nat.le_refl _ | (simp; done) | (simp; omega) | omega) _ _ | refine Below.setCell ?_ (by first | exact Nat.le_refl _ | (simp; done) | (simp; omega) | omega) _ | assumption)), by simpa [tokC, flat] using World.ownsRow_made (e := 87) (size := 4) w #[] 0 (Nat.le_refl _) (by decide) (by simp)⟩
  case round =>
    clear HST
    obtain ⟨a, L, rfl, hrun, hLa, hbel, hown⟩ := hrel
    have hat := hrun.1
    have HRUN := Lib.hid hrun
    have HBEL := Lib.hid hbel
    have HOWN := Lib.hid hown
    have hbs := hbel.size
    clear hrun hbel hown
    by_cases hlt : a < t.size
    · have hlt' : (a : Int) < (t.size : Int) := by omega
      have ix : ∀ (w : World), (Instr.index 9 (.string t) (.int .i64 (a : Int))).run Tryd.prog w = .ok (.int .u8 (byteAt t a)) w := fun w => by
        rw [run_index_string w _ t .i64 _ Tryd.underlying9, dif_pos ⟨by omega, by omega⟩]
        simp only [Int.toNat_natCast, byteAt_eq hlt]
      have HSPC := Lib.hid (fun h => HRUN.out.space hlt h)
      have HTA := Lib.hid (fun W => l12Scan_c t a W hlt (by omega))
      have HTOK := Lib.hid (fun (hs : spB (byteAt t a) = false) k h => HRUN.out.token (k := k) hlt (by rw [hs]; simp) h)
      have HBAD := Lib.hid (fun (hs : spB (byteAt t a) = false) h => HRUN.out.bad hlt (by rw [hs]; simp) h)
      have HSZ := Lib.hid (fun k h => scanT_size (t := t) (a := a) (k := k) hlt h)
      generalize byteAt t a = c at *
      by_cases h32 : c = 32
      · have HR2 := Lib.hid (HSPC.out (by rw [h32]; rfl))
        subst h32
        have ix2 : ∀ (w : World), (Instr.index 9 (.string t) (.int .i64 (a : Int))).run Tryd.prog w = .ok (.int .u8 32) w := ix
        clear ix HSPC HTOK HBAD
        go_wp2
        exact ⟨⟨a + 1, L, by first | rfl | go_num, HR2.out, by omega, HBEL.out, HOWN.out⟩, by simp only [intOf]; omega⟩
      by_cases h10 : c = 10
      · have HR2 := Lib.hid (HSPC.out (by rw [h10]; rfl))
        subst h10
        have ix2 : ∀ (w : World), (Instr.index 9 (.string t) (.int .i64 (a : Int))).run Tryd.prog w = .ok (.int .u8 10) w := ix
        clear ix HSPC HTOK HBAD h32
        go_wp2
        exact ⟨⟨a + 1, L, by first | rfl | go_num, HR2.out, by omega, HBEL.out, HOWN.out⟩, by simp only [intOf]; omega⟩
      have hsp : spB c = false := by simp only [spB, decide_eq_false_iff_not]; omega
      have e1 : ((c : Int) == 32) = false := by rw [beq_eq_false_iff_ne]; omega
      have e2 : ((c : Int) == 10) = false := by rw [beq_eq_false_iff_ne]; omega
      have HTOK2 := Lib.hid (HTOK.out hsp)
      have HBAD2 := Lib.hid (HBAD.out hsp)
      clear hsp HTOK HBAD HSPC h32 h10
      go_wp2_with fail
      refine (HTA.out _).mono ?_
      rintro e w2 ⟨k, E, ok, rfl, hb2, hsc, hE⟩
      have HB2 := Lib.hid hb2
      have HO2 := Lib.hid (own_kept HOWN.out hb2)
      have hs2 := hb2.size
      clear hb2
      cases ok
      · have HE := Lib.hid (HBAD2.out hsc)
        clear hsc hE
        obtain ⟨f0, f1, f2, f3⟩ := k
        go_wp2
        refine bodyPost_ret (v := .tuple #[.slice none 0 0, .int .i64 (a : Int)]) (by simp [results, Tryd.results25, go_sem]) rfl ?_
        rw [HE.out]
        exact ⟨none, 0, rfl, Ow.none, Below.alloc (HBEL.out.trans (HB2.out.mono hbs)) (by have := HB2.out.size; omega) _⟩
      · have HR2 := Lib.hid (HTOK2.out k hsc)
        obtain ⟨hz1, hz2⟩ := HSZ.out k hsc
        have HEE := Lib.hid (hE rfl)
        have hEl : a + 1 ≤ E ∧ E ≤ t.size := by have := HEE.out; omega
        rw [← HEE.out] at HR2
        clear hsc hE HBAD2 HTOK2 HSZ hz1 hz2
        obtain ⟨f0, f1, f2, f3⟩ := k
        go_wp2_with (at_builtin; go_loud (refine wp_app_tok ((HBEL.out.trans (HB2.out.mono hbs)).trans ?b0) (own_kept HO2.out ?b1) ⟨f0, f1, f2, f3⟩ (by omega) rfl _ _ rfl rfl _ 1 rfl (by exact heap_at_new (by simp)) ?_))
        case b0 => exact (by repeat (first | exact Below.refl _ _ | refine Below.drew ?_ | refine Below.alloc ?_ (by first | exact Nat.le_refl _ | (simp; done) | (simp; omega) | omega) _ | refine Below.more ?_ (by first | exact Nat.le_refl _ | (simp; done) | (simp; omega) | omega) _ _ | refine Below.setCell ?_ (by first | exact Nat.le_refl _ | (simp; done) | (simp; omega) | omega) _ | assumption))
        case b1 => exact (by repeat (first | exact Below.refl _ _ | refine Below.drew ?_ | refine Below.alloc ?_ (by first | exact Nat.le_refl _ | (simp; done) | (simp; omega) | omega) _ | refine Below.more ?_ (by first | exact Nat.le_refl _ | (simp; done) | (simp; omega) | omega) _ _ | refine Below.setCell ?_ (by first | exact Nat.le_refl _ | (simp; done) | (simp; omega) | omega) _ | assumption))
        intro v' w' L' HLE hb3 ho3 hkeep
        have HB3 := Lib.hid hb3
        have HO3 := Lib.hid ho3
        clear hb3 ho3 hkeep
        go_wp2
        exact ⟨⟨E, L', by first | rfl | go_num, by rw [HLE.out]; exact HR2.out, by rw [HLE.out, List.length_append, List.length_singleton]; omega, HB3.out, HO3.out⟩, by simp only [intOf]; omega⟩
    · have hlt' : ¬ (a : Int) < (t.size : Int) := by omega
      have HE := Lib.hid (HRUN.out.done hlt)
      go_wp2_with (at_builtin; go_loud (refine wp_app_tok (HBEL.out.trans ?b0) (own_kept HOWN.out ?b1) ⟨0, ByteArray.empty, 0, t.size⟩ (by omega) rfl _ _ rfl rfl _ 1 rfl (by exact heap_at_new (by simp)) ?_))
      case b0 => exact (by repeat (first | exact Below.refl _ _ | refine Below.drew ?_ | refine Below.alloc ?_ (by first | exact Nat.le_refl _ | (simp; done) | (simp; omega) | omega) _ | refine Below.more ?_ (by first | exact Nat.le_refl _ | (simp; done) | (simp; omega) | omega) _ _ | refine Below.setCell ?_ (by first | exact Nat.le_refl _ | (simp; done) | (simp; omega) | omega) _ | assumption))
      case b1 => exact (by repeat (first | exact Below.refl _ _ | refine Below.drew ?_ | refine Below.alloc ?_ (by first | exact Nat.le_refl _ | (simp; done) | (simp; omega) | omega) _ | refine Below.more ?_ (by first | exact Nat.le_refl _ | (simp; done) | (simp; omega) | omega) _ _ | refine Below.setCell ?_ (by first | exact Nat.le_refl _ | (simp; done) | (simp; omega) | omega) _ | assumption))
      intro v' w' L' HLE hb3 ho3 _
      rw [← HLE.out] at HE
      have HB3 := Lib.hid hb3
      obtain ⟨a', cap', rfl, ho⟩ := ow_of_ownsRow ho3 tokC_get
      have HO3 := Lib.hid ho
      clear hb3 ho3 ho
      go_wp2
      refine bodyPost_ret (v := .tuple #[.slice a' L'.length cap', .int .i64 (-1)]) (by simp [results, Tryd.results25, go_sem]) rfl ?_
      rw [HE.out]
      exact ⟨a', cap', rfl, HO3.out, HB3.out⟩
end Go.Proofs.YtdkjiafdfenbkaaDoor
