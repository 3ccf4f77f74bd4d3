/- Contracts of FormatSample and FormatCamera. -/
import Derived.Test.YtdkjiafdfenbkaaDoorFmtInts
import Derived.Test.YtdkjiafdfenbkaaDoorCam
import Derived.Test.YtdkjiafdfenbkaaDoorOpen
namespace Go.Proofs.YtdkjiafdfenbkaaDoor
open Go Go.RowKit
set_option linter.unusedVariables false
/-- A row of integers just laid reads as such. -/
theorem sl_ints {w : World} {g : Nat} {l : List Int} {e : TypeId} (h : w.heap[g]? = some (.cells ⟨l.map (.int .i64)⟩ e (0, 0))) : Sl w (some ⟨g, 0, none⟩) 1 l.length (intAt l) := by
  intro _
  refine ⟨g, 0, rfl, (Array.getElem?_eq_some_iff.1 h).1, fun i hi j hj => ?_⟩
  obtain rfl : j = 0 := by omega
  rw [cell_of_row w g _ _ e (0, 0) h]
  simp [intAt, hi]
def HasI (n : Int) : Prop := -9223372036854775808 ≤ n ∧ n ≤ 9223372036854775807
/-- A camera's text. -/
def camB (W H Z N : Int) (D : Bool) (L F : Int) : ByteArray := if camOk W H Z N L F then fmtsB [W, H, Z, N, if D then 1 else 0, L, F] else ⟨#[]⟩
theorem cam_bd {W H Z N L F D : Int} (h : camOk W H Z N L F = true) (hd : D = 0 ∨ D = 1) : ∀ k, k < 7 → -9223372036854775808 ≤ [W, H, Z, N, D, L, F].getD k 0 ∧ [W, H, Z, N, D, L, F].getD k 0 ≤ 9223372036854775807 := by
  simp only [camOk, Bool.and_eq_true, inB_true] at h
  obtain ⟨⟨⟨⟨⟨h1, h2⟩, h3⟩, h4⟩, h5⟩, h6⟩ := h
  intro k hk
  have hk' : k = 0 ∨ k = 1 ∨ k = 2 ∨ k = 3 ∨ k = 4 ∨ k = 5 ∨ k = 6 := by omega
  rcases hk' with rfl | rfl | rfl | rfl | rfl | rfl | rfl <;> simp <;> omega
set_option maxRecDepth 100000 in
theorem impl_FormatSample_c (x y t lx ly : Int) (w : World) (hT : Tab w) (hb : HasI x ∧ HasI y ∧ HasI t ∧ HasI lx ∧ HasI ly) :
    Calls Tryd.prog 12 #[.agg #[.int .i64 x, .int .i64 y, .int .i64 t, .int .i64 lx, .int .i64 ly]] w fun e w' => e = .returned (.string (fmtsB [x, y, t, lx, ly])) ∧ Below w.heap.size w w' := by
  have HT := Lib.hid hT
  have HB := Lib.hid (show ∀ k, k < 5 → -9223372036854775808 ≤ [x, y, t, lx, ly].getD k 0 ∧ [x, y, t, lx, ly].getD k 0 ≤ 9223372036854775807 from fun k hk => by
    obtain ⟨h1, h2, h3, h4, h5⟩ := hb
    have hk' : k = 0 ∨ k = 1 ∨ k = 2 ∨ k = 3 ∨ k = 4 := by omega
    rcases hk' with rfl | rfl | rfl | rfl | rfl <;> assumption)
  clear hT hb
  go_enter Tryd.func12, Tryd.ntmps12
  go_wp2_with fail
  refine (impl_FormatInts_c _ 5 [x, y, t, lx, ly] 5 (Lib.hid rfl) _ (sl_ints (l := [x, y, t, lx, ly]) (heap_at_new (by simp))) (by omega) (HT.out.below (by repeat (first | exact Below.refl _ _ | refine Below.drew ?_ | refine Below.alloc ?_ (by first | exact Nat.le_refl _ | (simp; done) | (simp; omega) | omega) _ | refine Below.more ?_ (by first | exact Nat.le_refl _ | (simp; done) | (simp; omega) | omega) _ _ | refine Below.setCell ?_ (by first | exact Nat.le_refl _ | (simp; done) | (simp; omega) | omega) _ | assumption))) HB.out).mono ?_
  rintro e wn ⟨rfl, hbn⟩; obtain ⟨X, nX, rfl⟩ := Below.ext hbn; clear hbn
  go_wp2
  go_ret
  exact ⟨rfl, (by repeat (first | exact Below.refl _ _ | refine Below.drew ?_ | refine Below.alloc ?_ (by first | exact Nat.le_refl _ | (simp; done) | (simp; omega) | omega) _ | refine Below.more ?_ (by first | exact Nat.le_refl _ | (simp; done) | (simp; omega) | omega) _ _ | refine Below.setCell ?_ (by first | exact Nat.le_refl _ | (simp; done) | (simp; omega) | omega) _ | assumption))⟩
set_option maxRecDepth 100000 in
set_option maxHeartbeats 4000000 in
theorem impl_FormatCamera_c (W H Z N : Int) (D : Bool) (L F : Int) (w : World) (hT : Tab w) :
    Calls Tryd.prog 15 #[camV W H Z N D L F] w fun e w' => e = .returned (.string (camB W H Z N D L F)) ∧ Below w.heap.size w w' := by
  have HT := Lib.hid hT
  clear hT
  cases hok : camOk W H Z N L F
  · have HE := Lib.hid (show camB W H Z N D L F = ⟨#[]⟩ by unfold camB; rw [hok]; rfl)
    go_enter Tryd.func15, Tryd.ntmps15
    go_wp2_with (go_at_call 38; refine (impl_IsValidCamera _ _ _ _ _ _ _ _).mono ?_; rw [hok]; rintro e wn ⟨rfl, hbn⟩; obtain ⟨X, nX, rfl⟩ := Below.ext hbn; clear hbn)
    go_ret
    exact ⟨by rw [HE.out]; rfl, (by repeat (first | exact Below.refl _ _ | refine Below.drew ?_ | refine Below.alloc ?_ (by first | exact Nat.le_refl _ | (simp; done) | (simp; omega) | omega) _ | refine Below.more ?_ (by first | exact Nat.le_refl _ | (simp; done) | (simp; omega) | omega) _ _ | refine Below.setCell ?_ (by first | exact Nat.le_refl _ | (simp; done) | (simp; omega) | omega) _ | assumption))⟩
  · have HE := Lib.hid (show camB W H Z N D L F = fmtsB [W, H, Z, N, if D then 1 else 0, L, F] by unfold camB; rw [hok]; rfl)
    have HB := Lib.hid (fun d hd => cam_bd (D := d) hok hd)
    cases D
    · go_enter Tryd.func15, Tryd.ntmps15
      go_wp2_with (go_at_call 38; refine (impl_IsValidCamera _ _ _ _ _ _ _ _).mono ?_; rw [hok]; rintro e wn ⟨rfl, hbn⟩; obtain ⟨X, nX, rfl⟩ := Below.ext hbn; clear hbn)
      refine (impl_FormatInts_c _ 7 [W, H, Z, N, 0, L, F] 7 (Lib.hid rfl) _ (sl_ints (l := [W, H, Z, N, 0, L, F]) (heap_at_new (by simp))) (by omega) (HT.out.below (by repeat (first | exact Below.refl _ _ | refine Below.drew ?_ | refine Below.alloc ?_ (by first | exact Nat.le_refl _ | (simp; done) | (simp; omega) | omega) _ | refine Below.more ?_ (by first | exact Nat.le_refl _ | (simp; done) | (simp; omega) | omega) _ _ | refine Below.setCell ?_ (by first | exact Nat.le_refl _ | (simp; done) | (simp; omega) | omega) _ | assumption))) (HB.out 0 (.inl rfl))).mono ?_
      rintro e wn ⟨rfl, hbn⟩; obtain ⟨X, nX, rfl⟩ := Below.ext hbn; clear hbn
      go_wp2
      go_ret
      exact ⟨by rw [HE.out]; rfl, (by repeat (first | exact Below.refl _ _ | refine Below.drew ?_ | refine Below.alloc ?_ (by first | exact Nat.le_refl _ | (simp; done) | (simp; omega) | omega) _ | refine Below.more ?_ (by first | exact Nat.le_refl _ | (simp; done) | (simp; omega) | omega) _ _ | refine Below.setCell ?_ (by first | exact Nat.le_refl _ | (simp; done) | (simp; omega) | omega) _ | assumption))⟩
    · go_enter Tryd.func15, Tryd.ntmps15
      go_wp2_with (go_at_call 38; refine (impl_IsValidCamera _ _ _ _ _ _ _ _).mono ?_; rw [hok]; rintro e wn ⟨rfl, hbn⟩; obtain ⟨X, nX, rfl⟩ := Below.ext hbn; clear hbn)
      refine (impl_FormatInts_c _ 7 [W, H, Z, N, 1, L, F] 7 (Lib.hid rfl) _ (sl_ints (l := [W, H, Z, N, 1, L, F]) (heap_at_new (by simp))) (by omega) (HT.out.below (by repeat (first | exact Below.refl _ _ | refine Below.drew ?_ | refine Below.alloc ?_ (by first | exact Nat.le_refl _ | (simp; done) | (simp; omega) | omega) _ | refine Below.more ?_ (by first | exact Nat.le_refl _ | (simp; done) | (simp; omega) | omega) _ _ | refine Below.setCell ?_ (by first | exact Nat.le_refl _ | (simp; done) | (simp; omega) | omega) _ | assumption))) (HB.out 1 (.inr rfl))).mono ?_
      rintro e wn ⟨rfl, hbn⟩; obtain ⟨X, nX, rfl⟩ := Below.ext hbn; clear hbn
      go_wp2
      go_ret
      exact ⟨by rw [HE.out]; rfl, (by repeat (first | exact Below.refl _ _ | refine Below.drew ?_ | refine Below.alloc ?_ (by first | exact Nat.le_refl _ | (simp; done) | (simp; omega) | omega) _ | refine Below.more ?_ (by first | exact Nat.le_refl _ | (simp; done) | (simp; omega) | omega) _ _ | refine Below.setCell ?_ (by first | exact Nat.le_refl _ | (simp; done) | (simp; omega) | omega) _ | assumption))⟩
set_option maxRecDepth 100000 in
theorem spec_FormatSample_c (x y t lx ly : Int) (w : World) (hT : Tab w) (hb : HasI x ∧ HasI y ∧ HasI t ∧ HasI lx ∧ HasI ly) :
    Calls Tryd.prog 10 #[.agg #[.int .i64 x, .int .i64 y, .int .i64 t, .int .i64 lx, .int .i64 ly]] w fun e w' => e = .returned (.string (fmtsB [x, y, t, lx, ly])) ∧ Below w.heap.size w w' := by
  have HT := Lib.hid hT
  have HB := Lib.hid (show ∀ k, k < 5 → -9223372036854775808 ≤ [x, y, t, lx, ly].getD k 0 ∧ [x, y, t, lx, ly].getD k 0 ≤ 9223372036854775807 from fun k hk => by
    obtain ⟨h1, h2, h3, h4, h5⟩ := hb
    have hk' : k = 0 ∨ k = 1 ∨ k = 2 ∨ k = 3 ∨ k = 4 := by omega
    rcases hk' with rfl | rfl | rfl | rfl | rfl <;> assumption)
  clear hT hb
  go_enter Tryd.func10, Tryd.ntmps10
  go_wp2_with fail
  refine (spec_FormatInts_c _ 5 [x, y, t, lx, ly] 5 (Lib.hid rfl) _ (sl_ints (l := [x, y, t, lx, ly]) (heap_at_new (by simp))) (by omega) (HT.out.below (by repeat (first | exact Below.refl _ _ | refine Below.drew ?_ | refine Below.alloc ?_ (by first | exact Nat.le_refl _ | (simp; done) | (simp; omega) | omega) _ | refine Below.more ?_ (by first | exact Nat.le_refl _ | (simp; done) | (simp; omega) | omega) _ _ | refine Below.setCell ?_ (by first | exact Nat.le_refl _ | (simp; done) | (simp; omega) | omega) _ | assumption))) HB.out).mono ?_
  rintro e wn ⟨rfl, hbn⟩; obtain ⟨X, nX, rfl⟩ := Below.ext hbn; clear hbn
  go_wp2
  go_ret
  exact ⟨rfl, (by repeat (first | exact Below.refl _ _ | refine Below.drew ?_ | refine Below.alloc ?_ (by first | exact Nat.le_refl _ | (simp; done) | (simp; omega) | omega) _ | refine Below.more ?_ (by first | exact Nat.le_refl _ | (simp; done) | (simp; omega) | omega) _ _ | refine Below.setCell ?_ (by first | exact Nat.le_refl _ | (simp; done) | (simp; omega) | omega) _ | assumption))⟩
set_option maxRecDepth 100000 in
set_option maxHeartbeats 4000000 in
theorem spec_FormatCamera_c (W H Z N : Int) (D : Bool) (L F : Int) (w : World) (hT : Tab w) :
    Calls Tryd.prog 13 #[camV W H Z N D L F] w fun e w' => e = .returned (.string (camB W H Z N D L F)) ∧ Below w.heap.size w w' := by
  have HT := Lib.hid hT
  clear hT
  cases hok : camOk W H Z N L F
  · have HE := Lib.hid (show camB W H Z N D L F = ⟨#[]⟩ by unfold camB; rw [hok]; rfl)
    go_enter Tryd.func13, Tryd.ntmps13
    go_wp2_with (go_at_call 37; refine (spec_IsValidCamera _ _ _ _ _ _ _ _).mono ?_; rw [hok]; rintro e wn ⟨rfl, hbn⟩; obtain ⟨X, nX, rfl⟩ := Below.ext hbn; clear hbn)
    go_ret
    exact ⟨by rw [HE.out]; rfl, (by repeat (first | exact Below.refl _ _ | refine Below.drew ?_ | refine Below.alloc ?_ (by first | exact Nat.le_refl _ | (simp; done) | (simp; omega) | omega) _ | refine Below.more ?_ (by first | exact Nat.le_refl _ | (simp; done) | (simp; omega) | omega) _ _ | refine Below.setCell ?_ (by first | exact Nat.le_refl _ | (simp; done) | (simp; omega) | omega) _ | assumption))⟩
  · have HE := Lib.hid (show camB W H Z N D L F = fmtsB [W, H, Z, N, if D then 1 else 0, L, F] by unfold camB; rw [hok]; rfl)
    have HB := Lib.hid (fun d hd => cam_bd (D := d) hok hd)
    cases D
    · go_enter Tryd.func13, Tryd.ntmps13
      go_wp2_with (go_at_call 37; refine (spec_IsValidCamera _ _ _ _ _ _ _ _).mono ?_; rw [hok]; rintro e wn ⟨rfl, hbn⟩; obtain ⟨X, nX, rfl⟩ := Below.ext hbn; clear hbn)
      refine (spec_FormatInts_c _ 7 [W, H, Z, N, 0, L, F] 7 (Lib.hid rfl) _ (sl_ints (l := [W, H, Z, N, 0, L, F]) (heap_at_new (by simp))) (by omega) (HT.out.below (by repeat (first | exact Below.refl _ _ | refine Below.drew ?_ | refine Below.alloc ?_ (by first | exact Nat.le_refl _ | (simp; done) | (simp; omega) | omega) _ | refine Below.more ?_ (by first | exact Nat.le_refl _ | (simp; done) | (simp; omega) | omega) _ _ | refine Below.setCell ?_ (by first | exact Nat.le_refl _ | (simp; done) | (simp; omega) | omega) _ | assumption))) (HB.out 0 (.inl rfl))).mono ?_
      rintro e wn ⟨rfl, hbn⟩; obtain ⟨X, nX, rfl⟩ := Below.ext hbn; clear hbn
      go_wp2
      go_ret
      exact ⟨by rw [HE.out]; rfl, (by repeat (first | exact Below.refl _ _ | refine Below.drew ?_ | refine Below.alloc ?_ (by first | exact Nat.le_refl _ | (simp; done) | (simp; omega) | omega) _ | refine Below.more ?_ (by first | exact Nat.le_refl _ | (simp; done) | (simp; omega) | omega) _ _ | refine Below.setCell ?_ (by first | exact Nat.le_refl _ | (simp; done) | (simp; omega) | omega) _ | assumption))⟩
    · go_enter Tryd.func13, Tryd.ntmps13
      go_wp2_with (go_at_call 37; refine (spec_IsValidCamera _ _ _ _ _ _ _ _).mono ?_; rw [hok]; rintro e wn ⟨rfl, hbn⟩; obtain ⟨X, nX, rfl⟩ := Below.ext hbn; clear hbn)
      refine (spec_FormatInts_c _ 7 [W, H, Z, N, 1, L, F] 7 (Lib.hid rfl) _ (sl_ints (l := [W, H, Z, N, 1, L, F]) (heap_at_new (by simp))) (by omega) (HT.out.below (by repeat (first | exact Below.refl _ _ | refine Below.drew ?_ | refine Below.alloc ?_ (by first | exact Nat.le_refl _ | (simp; done) | (simp; omega) | omega) _ | refine Below.more ?_ (by first | exact Nat.le_refl _ | (simp; done) | (simp; omega) | omega) _ _ | refine Below.setCell ?_ (by first | exact Nat.le_refl _ | (simp; done) | (simp; omega) | omega) _ | assumption))) (HB.out 1 (.inr rfl))).mono ?_
      rintro e wn ⟨rfl, hbn⟩; obtain ⟨X, nX, rfl⟩ := Below.ext hbn; clear hbn
      go_wp2
      go_ret
      exact ⟨by rw [HE.out]; rfl, (by repeat (first | exact Below.refl _ _ | refine Below.drew ?_ | refine Below.alloc ?_ (by first | exact Nat.le_refl _ | (simp; done) | (simp; omega) | omega) _ | refine Below.more ?_ (by first | exact Nat.le_refl _ | (simp; done) | (simp; omega) | omega) _ _ | refine Below.setCell ?_ (by first | exact Nat.le_refl _ | (simp; done) | (simp; omega) | omega) _ | assumption))⟩
end Go.Proofs.YtdkjiafdfenbkaaDoor
