/- Contracts of PixelSamples. -/
import Derived.Test.YtdkjiafdfenbkaaPixImpl1
import Derived.Test.YtdkjiafdfenbkaaPixImpl2
import Derived.Test.YtdkjiafdfenbkaaPixImpl4
import Derived.Test.YtdkjiafdfenbkaaPixSpec1
import Derived.Test.YtdkjiafdfenbkaaPixSpec2
import Derived.Test.YtdkjiafdfenbkaaPixSpec4
import Derived.Test.YtdkjiafdfenbkaaPixelAt
namespace Go.Proofs.Ytdkjiafdfenbkaa
open Go Go.RowKit
/-- Has the pixel samples? -/
def sampOk (W H Z N L F i j side : Int) : Bool := camOk W H Z N L F && (inB i 0 (W - 1) && inB j 0 (H - 1)) && sideB side
def samplesN (W H Z N L F i j side : Int) : Nat := if sampOk W H Z N L F i j side then (side * side).toNat else 0
def samplesL (_ _ _ _ _ _ i j side : Int) : List SampleD := samplesF i j side.toNat
theorem sideB_or {x : Int} (h : sideB x = true) : x = 1 ∨ x = 2 ∨ x = 4 := by simpa [sideB] using h
theorem samplesN_le (W H Z N L F i j side : Int) : samplesN W H Z N L F i j side ≤ 1048576 := by
  unfold samplesN
  by_cases h : sampOk W H Z N L F i j side = true
  · rw [if_pos h]
    simp only [sampOk, Bool.and_eq_true] at h
    rcases sideB_or h.2 with rfl | rfl | rfl <;> decide
  · rw [if_neg h]; omega
theorem impl_sideOk (x : Int) (w : World) : Calls Try.prog 15 #[.int .i64 x] w fun e w' => e = .returned (.bool (sideB x)) ∧ w = w' := by
  go_enter Try.func15, Try.ntmps15
  go_wp2
  all_goals (go_ret; exact ⟨ret_bool (by simp [sideB, Bool.or_assoc, *]), rfl⟩)
theorem impl_inImage (W H Z N : Int) (D : Bool) (L F i j : Int) (hW : 1 ≤ W ∧ W ≤ 12) (hH : 1 ≤ H ∧ H ≤ 12) (w : World) : Calls Try.prog 14 #[camV W H Z N D L F, .int .i64 i, .int .i64 j] w fun e w' => e = .returned (.bool (inB i 0 (W - 1) && inB j 0 (H - 1))) ∧ Below w.heap.size w w' := by
  obtain ⟨a1, a2⟩ := hW
  obtain ⟨a3, a4⟩ := hH
  go_enter Try.func14, Try.ntmps14
  go_wp2_with (go_at_call 17; refine (within_c _ _ _ _).mono ?_; rintro e w' ⟨rfl, rfl⟩)
  all_goals (go_ret; exact ⟨ret_bool (by simp [*]), (by repeat (first | exact Below.refl _ _ | refine Below.drew ?_ | refine Below.alloc ?_ (by first | exact Nat.le_refl _ | (simp; done) | (simp; omega) | omega) _ | refine Below.more ?_ (by first | exact Nat.le_refl _ | (simp; done) | (simp; omega) | omega) _ _ | refine Below.setCell ?_ (by first | exact Nat.le_refl _ | (simp; done) | (simp; omega) | omega) _ | assumption))⟩)

set_option maxRecDepth 100000 in
set_option maxHeartbeats 1000000 in
theorem impl_PixelSamples_c (W H Z N : Int) (D : Bool) (L F i j side : Int) (w : World) :
    Calls Try.prog 6 #[camV W H Z N D L F, .int .i64 i, .int .i64 j, .int .i64 side] w (Gives w 5 (samplesN W H Z N L F i j side) (SampleD.at (samplesL W H Z N L F i j side))) := by
  by_cases hok : sampOk W H Z N L F i j side = true
  · have hn : samplesN W H Z N L F i j side = (side * side).toNat := by unfold samplesN; rw [if_pos hok]
    rw [hn, show samplesL W H Z N L F i j side = samplesF i j side.toNat from rfl]
    clear hn
    simp only [sampOk, Bool.and_eq_true] at hok
    obtain ⟨⟨hcam, hi0, hj0⟩, hs⟩ := hok
    obtain ⟨⟨hw1, hw2⟩, ⟨hh1, hh2⟩, _⟩ := camOk_bd hcam
    obtain ⟨i1, i2⟩ := inB_true.1 hi0
    obtain ⟨j1, j2⟩ := inB_true.1 hj0
    have hij : (inB i 0 (W - 1) && inB j 0 (H - 1)) = true := by rw [hi0, hj0]; rfl
    have hs' := hs
    rcases sideB_or hs' with rfl | rfl | rfl
    all_goals
      go_enter Try.func6, Try.ntmps6
      go_wp2_with (first | (go_at_call 13; refine (impl_IsValidCamera _ _ _ _ _ _ _ _).mono ?_; rintro e wn ⟨rfl, hbn⟩; obtain ⟨X, nX, rfl⟩ := Below.ext hbn; clear hbn) | (go_at_call 14; refine (impl_inImage _ _ _ _ _ _ _ _ _ ⟨hw1, hw2⟩ ⟨hh1, hh2⟩ _).mono ?_; rintro e wn ⟨rfl, hbn⟩; obtain ⟨X, nX, rfl⟩ := Below.ext hbn; clear hbn) | (go_at_call 15; refine (impl_sideOk _ _).mono ?_; rintro e w' ⟨rfl, rfl⟩))
    · refine (impl_pixelSamples_1 i j i1 (by omega) j1 (by omega) _).mono ?_
      rintro e w1 ⟨a, cap, rfl, ho, hb⟩
      go_wp2
      go_ret
      exact ⟨a, cap, rfl, ho.wide (by simp; try omega) (Nat.le_refl _), Below.trans (by repeat (first | exact Below.refl _ _ | refine Below.drew ?_ | refine Below.alloc ?_ (by first | exact Nat.le_refl _ | (simp; done) | (simp; omega) | omega) _ | refine Below.more ?_ (by first | exact Nat.le_refl _ | (simp; done) | (simp; omega) | omega) _ _ | refine Below.setCell ?_ (by first | exact Nat.le_refl _ | (simp; done) | (simp; omega) | omega) _ | assumption)) (hb.mono (by simp; try omega))⟩
    · refine (impl_pixelSamples_2 i j i1 (by omega) j1 (by omega) _).mono ?_
      rintro e w1 ⟨a, cap, rfl, ho, hb⟩
      go_wp2
      go_ret
      exact ⟨a, cap, rfl, ho.wide (by simp; try omega) (Nat.le_refl _), Below.trans (by repeat (first | exact Below.refl _ _ | refine Below.drew ?_ | refine Below.alloc ?_ (by first | exact Nat.le_refl _ | (simp; done) | (simp; omega) | omega) _ | refine Below.more ?_ (by first | exact Nat.le_refl _ | (simp; done) | (simp; omega) | omega) _ _ | refine Below.setCell ?_ (by first | exact Nat.le_refl _ | (simp; done) | (simp; omega) | omega) _ | assumption)) (hb.mono (by simp; try omega))⟩
    · refine (impl_pixelSamples_4 i j i1 (by omega) j1 (by omega) _).mono ?_
      rintro e w1 ⟨a, cap, rfl, ho, hb⟩
      go_wp2
      go_ret
      exact ⟨a, cap, rfl, ho.wide (by simp; try omega) (Nat.le_refl _), Below.trans (by repeat (first | exact Below.refl _ _ | refine Below.drew ?_ | refine Below.alloc ?_ (by first | exact Nat.le_refl _ | (simp; done) | (simp; omega) | omega) _ | refine Below.more ?_ (by first | exact Nat.le_refl _ | (simp; done) | (simp; omega) | omega) _ _ | refine Below.setCell ?_ (by first | exact Nat.le_refl _ | (simp; done) | (simp; omega) | omega) _ | assumption)) (hb.mono (by simp; try omega))⟩
  · have hn : samplesN W H Z N L F i j side = 0 := by unfold samplesN; rw [if_neg hok]
    rw [hn]
    clear hn
    by_cases hcam : camOk W H Z N L F = true
    · obtain ⟨⟨hw1, hw2⟩, ⟨hh1, hh2⟩, _⟩ := camOk_bd hcam
      have hok' : (inB i 0 (W - 1) && inB j 0 (H - 1)) = false ∨ sideB side = false := by
        simp only [sampOk, hcam, Bool.true_and, Bool.and_eq_true, not_and, Bool.not_eq_true] at hok
        cases hq : (inB i 0 (W - 1) && inB j 0 (H - 1))
        · exact .inl rfl
        · exact .inr (hok (by simpa using hq))
      clear hok
      cases hq : (inB i 0 (W - 1) && inB j 0 (H - 1))
      · clear hok'
        go_enter Try.func6, Try.ntmps6
        go_wp2_with (first | (go_at_call 13; refine (impl_IsValidCamera _ _ _ _ _ _ _ _).mono ?_; rintro e wn ⟨rfl, hbn⟩; obtain ⟨X, nX, rfl⟩ := Below.ext hbn; clear hbn) | (go_at_call 14; refine (impl_inImage _ _ _ _ _ _ _ _ _ ⟨hw1, hw2⟩ ⟨hh1, hh2⟩ _).mono ?_; rintro e wn ⟨rfl, hbn⟩; obtain ⟨X, nX, rfl⟩ := Below.ext hbn; clear hbn) | (go_at_call 15; refine (impl_sideOk _ _).mono ?_; rintro e w' ⟨rfl, rfl⟩))
        go_ret
        exact Gives.nil (by repeat (first | exact Below.refl _ _ | refine Below.drew ?_ | refine Below.alloc ?_ (by first | exact Nat.le_refl _ | (simp; done) | (simp; omega) | omega) _ | refine Below.more ?_ (by first | exact Nat.le_refl _ | (simp; done) | (simp; omega) | omega) _ _ | refine Below.setCell ?_ (by first | exact Nat.le_refl _ | (simp; done) | (simp; omega) | omega) _ | assumption))
      · have hs : sideB side = false := hok'.resolve_left (by rw [hq]; decide)
        clear hok'
        go_enter Try.func6, Try.ntmps6
        go_wp2_with (first | (go_at_call 13; refine (impl_IsValidCamera _ _ _ _ _ _ _ _).mono ?_; rintro e wn ⟨rfl, hbn⟩; obtain ⟨X, nX, rfl⟩ := Below.ext hbn; clear hbn) | (go_at_call 14; refine (impl_inImage _ _ _ _ _ _ _ _ _ ⟨hw1, hw2⟩ ⟨hh1, hh2⟩ _).mono ?_; rintro e wn ⟨rfl, hbn⟩; obtain ⟨X, nX, rfl⟩ := Below.ext hbn; clear hbn) | (go_at_call 15; refine (impl_sideOk _ _).mono ?_; rintro e w' ⟨rfl, rfl⟩))
        go_ret
        exact Gives.nil (by repeat (first | exact Below.refl _ _ | refine Below.drew ?_ | refine Below.alloc ?_ (by first | exact Nat.le_refl _ | (simp; done) | (simp; omega) | omega) _ | refine Below.more ?_ (by first | exact Nat.le_refl _ | (simp; done) | (simp; omega) | omega) _ _ | refine Below.setCell ?_ (by first | exact Nat.le_refl _ | (simp; done) | (simp; omega) | omega) _ | assumption))
    · have hcf : camOk W H Z N L F = false := by simpa using hcam
      clear hok hcam
      go_enter Try.func6, Try.ntmps6
      go_wp2_with (go_at_call 13; refine (impl_IsValidCamera _ _ _ _ _ _ _ _).mono ?_; rintro e wn ⟨rfl, hbn⟩; obtain ⟨X, nX, rfl⟩ := Below.ext hbn; clear hbn)
      go_ret
      exact Gives.nil (by repeat (first | exact Below.refl _ _ | refine Below.drew ?_ | refine Below.alloc ?_ (by first | exact Nat.le_refl _ | (simp; done) | (simp; omega) | omega) _ | refine Below.more ?_ (by first | exact Nat.le_refl _ | (simp; done) | (simp; omega) | omega) _ _ | refine Below.setCell ?_ (by first | exact Nat.le_refl _ | (simp; done) | (simp; omega) | omega) _ | assumption))
end Go.Proofs.Ytdkjiafdfenbkaa
