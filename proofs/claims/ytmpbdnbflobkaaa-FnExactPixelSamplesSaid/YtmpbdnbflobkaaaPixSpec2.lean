/- Contract of the reference at 2 squares on a side. -/
import Derived.Test.YtmpbdnbflobkaaaPixMath
import Derived.Test.YtmpbdnbflobkaaaPixelAt
namespace Go.Proofs.Ytmpbdnbflobkaaa
open Go Go.RowKit
set_option maxRecDepth 100000 in
set_option maxHeartbeats 4000000 in
theorem spec_PixelSamples_2 (W H Z N : Int) (D : Bool) (L F i j : Int) (hcam : camOk W H Z N L F = true) (hi0 : inB i 0 (W - 1) = true) (hj0 : inB j 0 (H - 1) = true) (w : World) :
    Calls Try.prog 19 #[camV W H Z N D L F, .int .i64 i, .int .i64 j, .int .i64 2] w (Gives w 5 4 (SampleD.at (samplesF i j 2))) := by
  obtain ⟨i0, hi, hz0, hz1, hz2⟩ := info_parts info_Sample
  obtain ⟨⟨hw1, hw2⟩, ⟨hh1, hh2⟩, _, _, _, _⟩ := camOk_bd hcam
  obtain ⟨i1, i2⟩ := inB_true.1 hi0
  obtain ⟨j1, j2⟩ := inB_true.1 hj0
  go_enter Try.func19, Try.ntmps19
  go_wp2_with (first | (go_at_call 36; refine (spec_IsValidCamera _ _ _ _ _ _ _ _).mono ?_; rintro e wn ⟨rfl, hbn⟩; obtain ⟨X, nX, rfl⟩ := Below.ext hbn; clear hbn) | (go_at_call 24; refine (l01In_c _ _ _ _).mono ?_; rintro e w' ⟨rfl, rfl⟩))
  go_loopw [9, 11] (fun out r wr => ∃ (x k : Nat) (a : Option Addr) (cap : Nat), x ≤ 2 ∧ r = .int .i64 x ∧ out = .slice a k cap ∧ Hid (k = x * 2) ∧ Below w.heap.size w wr ∧ Hid (wr.ownsRow w.heap.size 29 5 (.slice a k cap) k (flat 5 k (SampleD.at (samplesF i j 2))))) (fun _ r _ => 2 - (intOf r).toNat)
  case atStart => exact ⟨0, 0, _, _, by omega, rfl, rfl, Lib.hid (by omega), (by repeat (first | exact Below.refl _ _ | refine Below.drew ?_ | refine Below.alloc ?_ (by first | exact Nat.le_refl _ | (simp; done) | (simp; omega) | omega) _ | refine Below.more ?_ (by first | exact Nat.le_refl _ | (simp; done) | (simp; omega) | omega) _ _ | refine Below.setCell ?_ (by first | exact Nat.le_refl _ | (simp; done) | (simp; omega) | omega) _ | assumption)), Lib.hid (own_below (by simpa [flat] using World.ownsRow_made (size := 5) (w.alloc (.cells #[.int .i64 W, .int .i64 H, .int .i64 Z, .int .i64 N, .bool D, .int .i64 L, .int .i64 F] 27)) #[] 0 (by simp) (by decide) (by simp)) (by simp; exact (by repeat (first | exact Below.refl _ _ | refine Below.drew ?_ | refine Below.alloc ?_ (by first | exact Nat.le_refl _ | (simp; done) | (simp; omega) | omega) _ | refine Below.more ?_ (by first | exact Nat.le_refl _ | (simp; done) | (simp; omega) | omega) _ _ | refine Below.setCell ?_ (by first | exact Nat.le_refl _ | (simp; done) | (simp; omega) | omega) _ | assumption))))⟩
  case round =>
    obtain ⟨x, k0, a, cap, hx, rfl, rfl, HK0, hbel, HO⟩ := hrel
    by_cases hlt : x < 2
    · have hx1 : (x : Int) < 2 := by omega
      go_wp2
      obtain ⟨wo, rfl⟩ : ∃ wo : World, wo = wr := ⟨_, rfl⟩
      go_loopw [9, 12] (fun out r wr => ∃ (y k : Nat) (a : Option Addr) (cap : Nat), y ≤ 2 ∧ r = .int .i64 y ∧ out = .slice a k cap ∧ Hid (k = x * 2 + y) ∧ Below w.heap.size w wr ∧ Hid (wr.ownsRow w.heap.size 29 5 (.slice a k cap) k (flat 5 k (SampleD.at (samplesF i j 2))))) (fun _ r _ => 2 - (intOf r).toNat)
      case atStart => exact ⟨0, k0, a, cap, by omega, rfl, rfl, Lib.hid (by have := HK0.out; omega), hbel, HO⟩
      case round =>
        clear HO HK0 hbel
        obtain ⟨y, k, a, cap, hy, rfl, rfl, HK, hbel, HO⟩ := hrel
        by_cases hlt2 : y < 2
        · have hy1 : (y : Int) < 2 := by omega
          have hbs := hbel.size
          have hkn : k < 4 := by have := HK.out; omega
          have HSA := Lib.hid (samplesF_at i j 2 k (by omega))
          obtain ⟨p1, q1⟩ := hashR_bd [i, j, (k : Int), 1] 8 (by decide)
          obtain ⟨p2, q2⟩ := hashR_bd [i, j, (k : Int), 2] 8 (by decide)
          obtain ⟨p3, q3⟩ := hashR_bd [i, j, (k : Int), 3] 16 (by decide)
          obtain ⟨p4, q4⟩ := hashR_bd [i, j, (k : Int), 4] 33 (by decide)
          obtain ⟨p5, q5⟩ := hashR_bd [i, j, (k : Int), 5] 33 (by decide)
          go_wp2_with fail
          refine (spec_HashRange _ [i, j, (k : Int), 1] 4 (Lib.hid rfl) 8 _ (Row.at_new _ 1 4 4 _ (by simp) rfl (by decide)) (by decide)).mono ?_
          rintro e w' ⟨rfl, rfl⟩
          go_wp2_with fail
          refine (spec_HashRange _ [i, j, (k : Int), 2] 4 (Lib.hid rfl) 8 _ (Row.at_new _ 1 4 4 _ (by simp) rfl (by decide)) (by decide)).mono ?_
          rintro e w' ⟨rfl, rfl⟩
          go_wp2_with fail
          refine (spec_HashRange _ [i, j, (k : Int), 3] 4 (Lib.hid rfl) 16 _ (Row.at_new _ 1 4 4 _ (by simp) rfl (by decide)) (by decide)).mono ?_
          rintro e w' ⟨rfl, rfl⟩
          go_wp2_with fail
          refine (spec_HashRange _ [i, j, (k : Int), 4] 4 (Lib.hid rfl) 33 _ (Row.at_new _ 1 4 4 _ (by simp) rfl (by decide)) (by decide)).mono ?_
          rintro e w' ⟨rfl, rfl⟩
          go_wp2_with fail
          refine (spec_HashRange _ [i, j, (k : Int), 5] 4 (Lib.hid rfl) 33 _ (Row.at_new _ 1 4 4 _ (by simp) rfl (by decide)) (by decide)).mono ?_
          rintro e w' ⟨rfl, rfl⟩
          go_wp2_with ((at_builtin; go_loud (refine wpList_append_more w ?b0 rfl _ _ 40 rfl 29 i0 _ 5 40 Try.underlying40 hi hz0 hz1 hz2 rfl (by decide) _ _ _ rfl (((((((HO.out.alloc _).alloc _).alloc _).alloc _).alloc _).alloc _).alloc _) _ 1 1 [.int .i64 (i * 16 + y * 8 + hashR [i, j, (k : Int), 1] 8), .int .i64 (j * 16 + x * 8 + hashR [i, j, (k : Int), 2] 8), .int .i64 (hashR [i, j, (k : Int), 3] 16), .int .i64 (hashR [i, j, (k : Int), 4] 33 - 16), .int .i64 (hashR [i, j, (k : Int), 5] 33 - 16)] rfl rfl ?b2 ?b3 ?b4 ?b5 ?_)))
          case b0 => exact (Below.alloc (Below.alloc (Below.alloc (Below.alloc (Below.alloc (Below.alloc (Below.alloc hbel hbs _) (by simp; omega) _) (by simp; omega) _) (by simp; omega) _) (by simp; omega) _) (by simp; omega) _) (by simp; omega) _)
          case b2 => exact Go.World.news_of_block (heap_at_new (by simp))
          case b3 => intro u hu; simp at hu; rcases hu with rfl | rfl | rfl | rfl | rfl <;> rfl
          case b4 => simp only [maxLen]; omega
          case b5 => omega
          intro v' X' d' hown' hnn
          obtain ⟨g', cap', rfl⟩ := own_form hown' (by decide)
          have HO2 := Lib.hid hown'
          clear hown' hnn
          go_wp2
          have hkk := HK.out
          refine ⟨⟨y + 1, k + 1, _, _, by omega, by go_num, rfl, Lib.hid (by omega), (by repeat (first | exact Below.refl _ _ | refine Below.drew ?_ | refine Below.alloc ?_ (by first | exact Nat.le_refl _ | (simp; done) | (simp; omega) | omega) _ | refine Below.more ?_ (by first | exact Nat.le_refl _ | (simp; done) | (simp; omega) | omega) _ _ | refine Below.setCell ?_ (by first | exact Nat.le_refl _ | (simp; done) | (simp; omega) | omega) _ | assumption)), Lib.hid ?_⟩, by simp only [intOf]; omega⟩
          have e1 : (k : Int) % 2 = y := by omega
          have e2 : (k : Int) / 2 = x := by omega
          rw [flat_succ, HSA.out]
          have hfin := HO2.out
          have hcs : (sampleAt i j 2 k).cells = [.int .i64 (i * 16 + y * 8 + hashR [i, j, (k : Int), 1] 8), .int .i64 (j * 16 + x * 8 + hashR [i, j, (k : Int), 2] 8), .int .i64 (hashR [i, j, (k : Int), 3] 16), .int .i64 (hashR [i, j, (k : Int), 4] 33 - 16), .int .i64 (hashR [i, j, (k : Int), 5] 33 - 16)] := by
            simp [sampleAt, hashQ, e1, e2]
          rw [hcs]
          exact hfin
        · go_wp2
          have hkk := HK.out
          exact ⟨⟨x + 1, k, a, cap, by omega, by go_num, rfl, Lib.hid (by rw [Nat.add_mul]; omega), hbel, HO⟩, by simp only [intOf]; omega⟩
    · have hkk := HK0.out
      have hk' : k0 = 4 := by omega
      subst hk'
      clear hkk HK0
      go_wp2
      go_ret
      obtain ⟨a', cap', e, ho⟩ := ow_of_ownsRow HO.out (flat_get (fun i hi => rfl))
      obtain ⟨rfl, rfl⟩ : a = a' ∧ cap = cap' := by simpa using e
      exact ⟨a, cap, rfl, ho, hbel⟩
end Go.Proofs.Ytmpbdnbflobkaaa
