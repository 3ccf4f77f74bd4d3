/- The reference's scan walked: the signs. -/
import Derived.Test.YtdkjiafdfenbkaaDoorTokD
namespace Go.Proofs.YtdkjiafdfenbkaaDoor
open Go Go.RowKit
set_option linter.unusedVariables false
set_option maxRecDepth 100000 in
set_option maxHeartbeats 8000000 in
theorem l12Scan_sym (t : ByteArray) (a : Nat) (w : World) (ha : a < t.size) (ht : t.size ≤ 2000) (hd : digB (byteAt t a) = false) (hl : letB (byteAt t a) = false) (hs : symB (byteAt t a) = true) :
    Calls Tryd.prog 58 #[.string t, .int .i64 (a : Int)] w (ScnE t a w) := by
  have ix : ∀ (w : World), (Instr.index 9 (.string t) (.int .i64 (a : Int))).run Tryd.prog w = .ok (.int .u8 (byteAt t a)) w := fun w => by
    rw [run_index_string w _ t .i64 _ Tryd.underlying9, dif_pos ⟨by omega, by omega⟩]
    simp only [Int.toNat_natCast, byteAt_eq ha]
  have HD := Lib.hid (fun W => hd ▸ l12Digit_c (byteAt t a) W)
  have HL := Lib.hid (fun W => hl ▸ l12Letter_c (byteAt t a) W)
  obtain ⟨E, hE⟩ : ∃ E, E = a + 1 := ⟨_, rfl⟩
  have HS := Lib.hid (hE ▸ scanS_sym hd hl hs)
  have hw1 : IntKind.i64.wrap ((a : Int) + 1) = (E : Int) := by rw [IntWalk.i64_in _ (by omega)]; omega
  have sl1 : ∀ W : World, (Instr.slice 9 (.string t) (some (.int .i64 (a : Int))) (some (.int .i64 (E : Int))) none).run Tryd.prog W = .ok (.string (t.extract a E)) W := fun W => by
    rw [run_slice_string W _ t .i64 .i64 a E Tryd.underlying9 (by omega) (by omega) (by omega)]; rfl
  have HZ := Lib.hid (ext_size (t := t) (a := a) (E := E) (by omega) (by omega))
  have ho := sym_or hs
  clear hd hl hs hE
  generalize byteAt t a = c at *
  generalize t.extract a E = x at *
  obtain ⟨W1, hcv, hblo, hko, hsz, hcl⟩ := conv_mark (w.heap.size + 1) 9 9 #[.int .u8 43, .int .u8 45, .int .u8 42, .int .u8 47, .int .u8 40, .int .u8 41, .int .u8 44, .int .u8 61, .int .u8 59] ((w.alloc (.cells #[.int .i64 0, .string ⟨#[]⟩, .int .i64 0, .int .i64 0] 87)).alloc (.cells #[.int .u8 43, .int .u8 45, .int .u8 42, .int .u8 47, .int .u8 40, .int .u8 41, .int .u8 44, .int .u8 61, .int .u8 59] 5)) (heap_at_new (by simp))
  have HBW := Lib.hid (show Below w.heap.size w W1 from (show Below w.heap.size w _ from (by repeat (first | exact Below.refl _ _ | refine Below.drew ?_ | refine Below.alloc ?_ (by first | exact Nat.le_refl _ | (simp; done) | (simp; omega) | omega) _ | refine Below.more ?_ (by first | exact Nat.le_refl _ | (simp; done) | (simp; omega) | omega) _ _ | refine Below.setCell ?_ (by first | exact Nat.le_refl _ | (simp; done) | (simp; omega) | omega) _ | assumption))).trans (hblo w.heap.size (by omega)))
  have hform : putB W1 w.heap.size [.int .i64 0, .string ⟨#[]⟩, .int .i64 0, .int .i64 0] 87 = W1 := putB_self (by rw [hko _ (by omega), Below.block (Below.alloc (Below.refl _ _) (Nat.le_refl _) _) _ (by simp)]; exact heap_at_new rfl)
  have hlw : w.heap.size < W1.heap.size := by rw [hsz]; simp; try omega
  have hlw1 : w.heap.size + 1 < W1.heap.size := by rw [hsz]; simp; try omega
  have hne1 : ¬ w.heap.size + 1 = w.heap.size := by omega
  rw [← hform] at hcv
  have b0 : W1.cell? ⟨w.heap.size + 1, 0, none⟩ = some (.int .u8 43) := hcl 0
  have b1 : W1.cell? ⟨w.heap.size + 1, 1, none⟩ = some (.int .u8 45) := hcl 1
  have b2 : W1.cell? ⟨w.heap.size + 1, 2, none⟩ = some (.int .u8 42) := hcl 2
  have b3 : W1.cell? ⟨w.heap.size + 1, 3, none⟩ = some (.int .u8 47) := hcl 3
  have b4 : W1.cell? ⟨w.heap.size + 1, 4, none⟩ = some (.int .u8 40) := hcl 4
  have b5 : W1.cell? ⟨w.heap.size + 1, 5, none⟩ = some (.int .u8 41) := hcl 5
  have b6 : W1.cell? ⟨w.heap.size + 1, 6, none⟩ = some (.int .u8 44) := hcl 6
  have b7 : W1.cell? ⟨w.heap.size + 1, 7, none⟩ = some (.int .u8 61) := hcl 7
  have b8 : W1.cell? ⟨w.heap.size + 1, 8, none⟩ = some (.int .u8 59) := hcl 8
  clear hblo hko hsz hcl hform
  rcases ho with rfl | rfl | rfl | rfl | rfl | rfl | rfl | rfl | rfl
  all_goals
    go_enter Tryd.func58, Tryd.ntmps58
    go_wp2_with fail
    refine (HD.out _).mono ?_
    rintro e w' ⟨rfl, rfl⟩
    go_wp2_with fail
    refine (HL.out _).mono ?_
    rintro e w' ⟨rfl, rfl⟩
    go_wp2
    go_rounds 10
    all_goals exact bodyPost_ret (v := .tuple #[.agg #[.int .i64 3, .string x, .int .i64 0, .int .i64 (a : Int)], .int .i64 (E : Int), .bool true]) (by simp [results, Tryd.results58, go_sem, hlw]) rfl ⟨⟨3, x, 0, a⟩, E, true, rfl, HBW.out.trans (Below.putB (Nat.le_refl _)), HS.out, fun _ => HZ.out⟩
end Go.Proofs.YtdkjiafdfenbkaaDoor
