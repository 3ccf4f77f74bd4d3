/- Contract of the reference's DiceRate. -/
import Derived.Test.YtkdkdejgajcneaaRate
import Derived.Test.YtkdkdejgajcneaaGrid
namespace Go.Proofs.Ytkdkdejgajcneaa
open Go Go.RowKit
set_option linter.unusedVariables false
theorem spec_grid_c (c : CamD) (p : PatD) (k : Nat) (hk1 : 1 ≤ k) (hk8 : k ≤ 8) (w : World) :
    Calls Try.prog 69 #[c.val, p.val, .int .i64 (k : Int)] w (GridQ w k (gPt c p k) (gOk c p k)) :=
  spec_grid_w c p k hk8 _ _ (fun i j hi hj => ⟨_, _, _, spec_pt c p i j k 0 0 (by simp [evOk, inB_true]; omega)⟩) w
/-- Is point (i, j) near to the one on its right and to the one below? -/
def farB (PT : Nat → Nat → VecD) (k : Nat) (most : Int) (i j : Nat) : Bool := (decide (i < k) && !nearB (PT i j) (PT (i + 1) j) most) || (decide (j < k) && !nearB (PT i j) (PT i (j + 1)) most)
/-- What the reference's loops ask. -/
structure FarF (k : Nat) (OK : Nat → Nat → Bool) (FB : Nat → Nat → Bool) (R : Bool) : Prop where
  b0 : (∃ i j, i ≤ k ∧ j ≤ k ∧ OK i j = false) → R = false
  b1 : ∀ i j, i ≤ k → j ≤ k → FB i j = true → R = false
  yes : (∀ i j, i ≤ k → j ≤ k → OK i j = true) → (∀ i j, i ≤ k → j ≤ k → FB i j = false) → R = true
theorem farF (c : CamD) (p : PatD) (k : Nat) (most : Int) : FarF k (gOk c p k) (farB (gPt c p k) k most) (fineB c p k most) := by
  have hi := fineB_iff c p k most
  refine ⟨fun ⟨i, j, h1, h2, h⟩ => ?_, fun i j h1 h2 h => ?_, fun h1 h2 => ?_⟩
  · cases hf : fineB c p k most
    · rfl
    · rw [(hi.1 hf).1 i j h1 h2] at h; cases h
  · cases hf : fineB c p k most
    · rfl
    · obtain ⟨a, b⟩ := (hi.1 hf).2 i j h1 h2
      unfold farB at h
      by_cases hik : i < k
      · by_cases hjk : j < k
        · simp [a hik, b hjk] at h
        · simp [a hik, hjk] at h
      · by_cases hjk : j < k
        · simp [hik, b hjk] at h
        · simp [hik, hjk] at h
  · refine hi.2 ⟨h1, fun i j hi' hj' => ?_⟩
    have := h2 i j hi' hj'
    unfold farB at this
    refine ⟨fun h => ?_, fun h => ?_⟩
    · simp [h] at this; exact this.1
    · simp [h] at this; exact this.2
set_option maxRecDepth 100000 in
set_option maxHeartbeats 16000000 in
theorem spec_DiceRate_c (c : CamD) (p : PatD) (most : Int) (w : World) :
    Calls Try.prog 22 #[c.val, p.val, .int .i64 most] w fun e w' => e = .returned (.int .i64 (rateD c p most)) ∧ Below w.heap.size w w' := by
  cases h1 : c.ok
  · have HR := Lib.hid (rate_no (c := c) (p := p) (most := most) (by simp [h1]))
    go_enter Try.func22, Try.ntmps22
    go_wp2_with (go_at_call 66; refine (spec_IsValidCamera _ _ _ _ _ _ _ _).mono ?_; rw [show camOk c.W c.H c.Z c.N c.L c.F = false from h1]; rintro e wn ⟨rfl, hbn⟩; obtain ⟨X, nX, rfl⟩ := Below.ext hbn; clear hbn)
    go_ret
    exact ⟨by rw [HR.out]; rfl, (by repeat (first | exact Below.refl _ _ | refine Below.drew ?_ | refine Below.alloc ?_ (by first | exact Nat.le_refl _ | (simp; done) | (simp; omega) | omega) _ | refine Below.more ?_ (by first | exact Nat.le_refl _ | (simp; done) | (simp; omega) | omega) _ _ | refine Below.setCell ?_ (by first | exact Nat.le_refl _ | (simp; done) | (simp; omega) | omega) _ | assumption))⟩
  · cases h2 : p.ok
    · have HR := Lib.hid (rate_no (c := c) (p := p) (most := most) (by simp [h2]))
      go_enter Try.func22, Try.ntmps22
      go_wp2_with (first | (go_at_call 66; refine (spec_IsValidCamera _ _ _ _ _ _ _ _).mono ?_; rw [show camOk c.W c.H c.Z c.N c.L c.F = true from h1]; rintro e wn ⟨rfl, hbn⟩; obtain ⟨X, nX, rfl⟩ := Below.ext hbn; clear hbn) | (go_at_call 67; refine (spec_IsValidPatch _ _ _ _ _ _ _ _ _ _ _ _ _).mono ?_; rw [show patOk p.t0 p.t1 p.t2 p.t3 p.t4 p.t5 p.t6 p.t7 p.t8 p.t9 p.t10 p.t11 = false from h2]; rintro e wn ⟨rfl, hbn⟩; obtain ⟨X, nX, rfl⟩ := Below.ext hbn; clear hbn))
      go_ret
      exact ⟨by rw [HR.out]; rfl, (by repeat (first | exact Below.refl _ _ | refine Below.drew ?_ | refine Below.alloc ?_ (by first | exact Nat.le_refl _ | (simp; done) | (simp; omega) | omega) _ | refine Below.more ?_ (by first | exact Nat.le_refl _ | (simp; done) | (simp; omega) | omega) _ _ | refine Below.setCell ?_ (by first | exact Nat.le_refl _ | (simp; done) | (simp; omega) | omega) _ | assumption))⟩
    · cases h3 : inB most 1 1000
      · have HR := Lib.hid (rate_no (c := c) (p := p) (most := most) (by simp [h3]))
        go_enter Try.func22, Try.ntmps22
        go_wp2_with (first | (go_at_call 66; refine (spec_IsValidCamera _ _ _ _ _ _ _ _).mono ?_; rw [show camOk c.W c.H c.Z c.N c.L c.F = true from h1]; rintro e wn ⟨rfl, hbn⟩; obtain ⟨X, nX, rfl⟩ := Below.ext hbn; clear hbn) | (go_at_call 67; refine (spec_IsValidPatch _ _ _ _ _ _ _ _ _ _ _ _ _).mono ?_; rw [show patOk p.t0 p.t1 p.t2 p.t3 p.t4 p.t5 p.t6 p.t7 p.t8 p.t9 p.t10 p.t11 = true from h2]; rintro e wn ⟨rfl, hbn⟩; obtain ⟨X, nX, rfl⟩ := Below.ext hbn; clear hbn) | (go_at_call 68; refine (l01In_c _ _ _ _).mono ?_; rw [h3]; rintro e w' ⟨rfl, rfl⟩))
        go_ret
        exact ⟨by rw [HR.out]; rfl, (by repeat (first | exact Below.refl _ _ | refine Below.drew ?_ | refine Below.alloc ?_ (by first | exact Nat.le_refl _ | (simp; done) | (simp; omega) | omega) _ | refine Below.more ?_ (by first | exact Nat.le_refl _ | (simp; done) | (simp; omega) | omega) _ _ | refine Below.setCell ?_ (by first | exact Nat.le_refl _ | (simp; done) | (simp; omega) | omega) _ | assumption))⟩
      · have HOK := Lib.hid (show (c.ok && p.ok && inB most 1 1000) = true by simp [h1, h2, h3])
        have HAT := Lib.hid (fun k hk (ht : Tried c p most k) hf => rate_at HOK.out hk ht hf)
        have HEN := Lib.hid (fun (ht : Tried c p most 8) => rate_end HOK.out ht)
        have HNX := Lib.hid (fun k hk (ht : Tried c p most k) hf => Tried.next hk ht hf)
        have HT0 := Lib.hid (show Tried c p most 1 from ⟨fun h => by omega, fun h => by omega, fun h => by omega⟩)
        have HGR := Lib.hid (fun k h1 h8 w => spec_grid_c c p k h1 h8 w)
        have HFF := Lib.hid (fun k => farF c p k most)
        have HFAR := Lib.hid (fun k i j i' j' w => spec_far (gPt c p k i j) (gPt c p k i' j') most (scV_bd _ _ _ _) (scV_bd _ _ _ _) w)
        generalize rateD c p most = R at *
        obtain ⟨BW, hBW⟩ : ∃ BW, BW = (w.alloc (.cells ⟨c.cells⟩ 24)).alloc (.cells ⟨p.cells⟩ 30) := ⟨_, rfl⟩
        have HBX := Lib.hid (show CPBox BW w.heap.size c p by rw [hBW]; exact CPBox.new w c p)
        have HB0 := Lib.hid (show Below w.heap.size w BW by rw [hBW]; exact (by repeat (first | exact Below.refl _ _ | refine Below.drew ?_ | refine Below.alloc ?_ (by first | exact Nat.le_refl _ | (simp; done) | (simp; omega) | omega) _ | refine Below.more ?_ (by first | exact Nat.le_refl _ | (simp; done) | (simp; omega) | omega) _ _ | refine Below.setCell ?_ (by first | exact Nat.le_refl _ | (simp; done) | (simp; omega) | omega) _ | assumption)))
        have hsz : w.heap.size + 1 < BW.heap.size := by rw [hBW]; simp
        have hsz0 : w.heap.size < BW.heap.size := by omega
        have HW := Lib.hid hBW
        clear hBW HOK
        go_enter Try.func22, Try.ntmps22
        go_wp2_with (first | (go_at_call 66; refine (spec_IsValidCamera _ _ _ _ _ _ _ _).mono ?_; rw [show camOk c.W c.H c.Z c.N c.L c.F = true from h1]; rintro e wn ⟨rfl, hbn⟩; obtain ⟨X, nX, rfl⟩ := Below.ext hbn; clear hbn) | (go_at_call 67; refine (spec_IsValidPatch _ _ _ _ _ _ _ _ _ _ _ _ _).mono ?_; rw [show patOk p.t0 p.t1 p.t2 p.t3 p.t4 p.t5 p.t6 p.t7 p.t8 p.t9 p.t10 p.t11 = true from h2]; rintro e wn ⟨rfl, hbn⟩; obtain ⟨X, nX, rfl⟩ := Below.ext hbn; clear hbn) | (go_at_call 68; refine (l01In_c _ _ _ _).mono ?_; rw [h3]; rintro e w' ⟨rfl, rfl⟩))
        go_loopw [7] (fun n wr => ∃ k : Nat, (k = 1 ∨ k = 2 ∨ k = 4 ∨ k = 8) ∧ n = .int .i64 k ∧ Below BW.heap.size BW wr ∧ Tried c p most k) (fun n _ => 8 - (intOf n).toNat)
        case atStart =>
          have hW := HW.out
          refine ⟨1, .inl rfl, rfl, ?_, HT0.out⟩
          rw [hW]
          exact (by repeat (first | exact Below.refl _ _ | refine Below.drew ?_ | refine Below.alloc ?_ (by first | exact Nat.le_refl _ | (simp; done) | (simp; omega) | omega) _ | refine Below.more ?_ (by first | exact Nat.le_refl _ | (simp; done) | (simp; omega) | omega) _ _ | refine Below.setCell ?_ (by first | exact Nat.le_refl _ | (simp; done) | (simp; omega) | omega) _ | assumption))
        case round =>
          obtain ⟨k, hk, rfl, hbel, htr⟩ := hrel
          have hbx := HBX.out.kept hbel
          have hl1 : w.heap.size + 1 < wr.heap.size := by have := hbel.size; omega
          have hl0 : w.heap.size < wr.heap.size := by omega
          have HTR := Lib.hid htr
          have HBEL := Lib.hid hbel
          clear htr hbel
          by_cases h8 : k = 8
          · subst h8
            have HE := Lib.hid (HEN.out HTR.out)
            go_wp2
            go_ret
            exact ⟨by rw [HE.out]; rfl, HB0.out.trans (HBEL.out.mono HB0.out.size)⟩
          · have hk4 : k = 1 ∨ k = 2 ∨ k = 4 := by omega
            have HK := Lib.hid hk4
            have hk8 : k ≤ 8 := by omega
            have hk1 : 1 ≤ k := by omega
            have hlt : (k : Int) < 8 := by omega
            have qk : IntKind.i64.wrap (2 * (k : Int)) = ((k * 2 : Nat) : Int) := by rw [show ((k * 2 : Nat) : Int) = 2 * (k : Int) by omega]; exact IntWalk.i64_in _ (by omega)
            have c0 : wr.cell? ⟨w.heap.size, 0, none⟩ = some (.int .i64 c.W) := hbx.cc 0
            have c1 : wr.cell? ⟨w.heap.size, 1, none⟩ = some (.int .i64 c.H) := hbx.cc 1
            have c2 : wr.cell? ⟨w.heap.size, 2, none⟩ = some (.int .i64 c.Z) := hbx.cc 2
            have c3 : wr.cell? ⟨w.heap.size, 3, none⟩ = some (.int .i64 c.N) := hbx.cc 3
            have c5 : wr.cell? ⟨w.heap.size, 5, none⟩ = some (.int .i64 c.L) := hbx.cc 5
            have c6 : wr.cell? ⟨w.heap.size, 6, none⟩ = some (.int .i64 c.F) := hbx.cc 6
            have c4 : wr.cell? ⟨w.heap.size, 4, none⟩ = some (.bool c.D) := hbx.cc 4
            have d0 : wr.cell? ⟨w.heap.size + 1, 0, none⟩ = some (.int .i64 p.t0) := hbx.cp 0
            have d1 : wr.cell? ⟨w.heap.size + 1, 1, none⟩ = some (.int .i64 p.t1) := hbx.cp 1
            have d2 : wr.cell? ⟨w.heap.size + 1, 2, none⟩ = some (.int .i64 p.t2) := hbx.cp 2
            have d3 : wr.cell? ⟨w.heap.size + 1, 3, none⟩ = some (.int .i64 p.t3) := hbx.cp 3
            have d4 : wr.cell? ⟨w.heap.size + 1, 4, none⟩ = some (.int .i64 p.t4) := hbx.cp 4
            have d5 : wr.cell? ⟨w.heap.size + 1, 5, none⟩ = some (.int .i64 p.t5) := hbx.cp 5
            have d6 : wr.cell? ⟨w.heap.size + 1, 6, none⟩ = some (.int .i64 p.t6) := hbx.cp 6
            have d7 : wr.cell? ⟨w.heap.size + 1, 7, none⟩ = some (.int .i64 p.t7) := hbx.cp 7
            have d8 : wr.cell? ⟨w.heap.size + 1, 8, none⟩ = some (.int .i64 p.t8) := hbx.cp 8
            have d9 : wr.cell? ⟨w.heap.size + 1, 9, none⟩ = some (.int .i64 p.t9) := hbx.cp 9
            have d10 : wr.cell? ⟨w.heap.size + 1, 10, none⟩ = some (.int .i64 p.t10) := hbx.cp 10
            have d11 : wr.cell? ⟨w.heap.size + 1, 11, none⟩ = some (.int .i64 p.t11) := hbx.cp 11
            have HG := Lib.hid (HGR.out k hk1 hk8)
            have HFK := Lib.hid (HFF.out k)
            have HFR := Lib.hid (fun i j i' j' w => HFAR.out k i j i' j' w)
            have HNXT := Lib.hid (fun hf => HNX.out k HK.out HTR.out hf)
            have HFIN := Lib.hid (fun hf => HAT.out k HK.out HTR.out hf)
            have HLEN := Lib.hid (fun j => rowC_len (gPt c p k) (k + 1) j)
            have HCEL := Lib.hid (fun i j (h : i < k + 1) s (hs : s < 3) => rowC_at (PT := gPt c p k) h j s hs)
            have HFB := Lib.hid (fun i j => (show farB (gPt c p k) k most i j = ((decide (i < k) && !nearB (gPt c p k i j) (gPt c p k (i + 1) j) most) || (decide (j < k) && !nearB (gPt c p k i j) (gPt c p k i (j + 1)) most)) from rfl))
            clear hbx hk hk4 HGR HFF HFAR HNX HAT
            generalize gPt c p k = PT at *
            generalize gOk c p k = OKP at *
            generalize farB PT k most = FB at *
            generalize fineB c p k most = RB at *
            go_wp2_with fail
            refine (HG.out _).mono ?_
            rintro e w2 ⟨hb2, ⟨rfl, hno⟩ | ⟨v, rfl, hgrid, hyes⟩⟩
            · have HB2 := Lib.hid hb2
              have HNO := Lib.hid (HFK.out.b0 hno)
              clear hb2 hno
              go_wp2
              go_rounds 1
              go_roundw
              case rel => exact ⟨k * 2, by have := HK.out; omega, by go_num, HBEL.out.trans (HB2.out.mono HBEL.out.size), HNXT.out HNO.out⟩
              case measure => have := HK.out; simp [intOf]; omega
            · have HB2 := Lib.hid hb2
              have HGD := Lib.hid hgrid
              have HYES := Lib.hid hyes
              obtain ⟨B0, K0, hown0, _⟩ := hgrid
              obtain ⟨ga, gc, rfl⟩ := own_form_any hown0
              clear hb2 hyes hown0
              have HB2B := Lib.hid (HBEL.out.trans (HB2.out.mono HBEL.out.size))
              go_wp2
              go_loopw [9, 10] (fun ok jv wr => ∃ (b : Bool) (j : Nat), j ≤ k + 1 ∧ jv = .int .i64 j ∧ ok = .bool b ∧ Below w2.heap.size w2 wr ∧ (b = true → ∀ i j', i ≤ k → j' < j → FB i j' = false) ∧ (b = false → RB = false)) (fun _ jv _ => k + 1 - (intOf jv).toNat)
              case atStart => exact ⟨true, 0, by omega, rfl, rfl, Below.refl _ _, fun _ _ _ _ h => absurd h (Nat.not_lt_zero _), fun h => by cases h⟩
              case round =>
                obtain ⟨b, j, hj, rfl, rfl, hbelj, hgj, hbj⟩ := hrel
                have HBJ := Lib.hid hbelj
                have HGJ := Lib.hid hgj
                have HBFJ := Lib.hid hbj
                clear hbelj hgj hbj
                cases b
                · have HNO := Lib.hid (HBFJ.out rfl)
                  by_cases hjk : j ≤ k
                  · have hjk1 : (j : Int) ≤ (k : Int) := by omega
                    go_wp2
                    go_roundw
                    case rel => exact ⟨k * 2, by have := HK.out; omega, by go_num, HB2B.out.trans (HBJ.out.mono HB2B.out.size), HNXT.out HNO.out⟩
                    case measure => have := HK.out; simp [intOf]; omega
                  · have hjk1 : ¬ (j : Int) ≤ (k : Int) := by omega
                    go_wp2
                    go_roundw
                    case rel => exact ⟨k * 2, by have := HK.out; omega, by go_num, HB2B.out.trans (HBJ.out.mono HB2B.out.size), HNXT.out HNO.out⟩
                    case measure => have := HK.out; simp [intOf]; omega
                · by_cases hjk : j ≤ k
                  · have hjk1 : (j : Int) ≤ (k : Int) := by omega
                    obtain ⟨j1, hj1⟩ : ∃ j1, j1 = j + 1 := ⟨_, rfl⟩
                    have qj : IntKind.i64.wrap ((j : Int) + 1) = (j1 : Int) := by rw [show (j1 : Int) = (j : Int) + 1 by omega]; exact IntWalk.i64_in _ (by omega)
                    have HJ1 := Lib.hid hj1
                    clear hj1
                    go_wp2
                    go_loopw [9, 11] (fun ok iv wr => ∃ (b : Bool) (i : Nat), i ≤ k + 1 ∧ iv = .int .i64 i ∧ ok = .bool b ∧ Below w2.heap.size w2 wr ∧ (b = true → ∀ i', i' < i → FB i' j = false) ∧ (b = false → RB = false)) (fun _ iv _ => k + 1 - (intOf iv).toNat)
                    case atStart => exact ⟨true, 0, by omega, rfl, rfl, HBJ.out, fun _ _ h => absurd h (Nat.not_lt_zero _), fun h => by cases h⟩
                    case round =>
                      obtain ⟨ok, i, hi, rfl, rfl, hbeli, hgi, hbi⟩ := hrel
                      have HBI := Lib.hid hbeli
                      have HGI := Lib.hid hgi
                      have HBF := Lib.hid hbi
                      clear hbeli hgi hbi
                      by_cases hilt : i ≤ k
                      · have hilt1 : (i : Int) ≤ (k : Int) := by omega
                        have hik2 : i < k + 1 := by omega
                        have hjk2 : j < k + 1 := by omega
                        have hjkI : (j : Int) < (k : Int) + 1 := by omega
                        have hikI : (i : Int) < (k : Int) + 1 := by omega
                        obtain ⟨i1, hi1⟩ : ∃ i1, i1 = i + 1 := ⟨_, rfl⟩
                        have qi : IntKind.i64.wrap ((i : Int) + 1) = (i1 : Int) := by rw [show (i1 : Int) = (i : Int) + 1 by omega]; exact IntWalk.i64_in _ (by omega)
                        have HI1 := Lib.hid hi1
                        have hfb := HFB.out i j
                        rw [← hi1, ← HJ1.out] at hfb
                        have HFB1 := Lib.hid (show (((decide (i < k) && !nearB (PT i j) (PT i1 j) most) || (decide (j < k) && !nearB (PT i j) (PT i j1) most)) = true) → FB i j = true from fun h => hfb.trans h)
                        have HFB0 := Lib.hid (show (((decide (i < k) && !nearB (PT i j) (PT i1 j) most) || (decide (j < k) && !nearB (PT i j) (PT i j1) most)) = false) → FB i j = false from fun h => hfb.trans h)
                        have HF1 := Lib.hid (fun h => HFK.out.b1 i j hilt hjk h)
                        have HNX1 := Lib.hid (show ok = true → FB i j = false → ∀ i', i' < i1 → FB i' j = false from fun h hf i' hi' => by
                          by_cases he : i' = i
                          · rw [he]; exact hf
                          · exact HGI.out h i' (by omega))
                        have HFRt := Lib.hid (fun w => HFR.out i j i1 j w)
                        have HFU := Lib.hid (fun w => HFR.out i j i j1 w)
                        obtain ⟨g, cap, b, kap, hv, hg, hbl, hhd, hce⟩ := (HGD.out.below HBI.out).read (fun j _ => HLEN.out j) (show j < k + 1 by omega)
                        simp only [Value.slice.injEq] at hv
                        obtain ⟨rfl, _, rfl⟩ := hv
                        have a0 : wr.cell? ⟨b, i * 3, none⟩ = some (.int .i64 (PT i j).f0) := (hce (i * 3) (by omega)).trans (HCEL.out i j (by omega) 0 (by omega))
                        have a1 : wr.cell? ⟨b, i * 3 + 1, none⟩ = some (.int .i64 (PT i j).f1) := (hce (i * 3 + 1) (by omega)).trans (HCEL.out i j (by omega) 1 (by omega))
                        have a2 : wr.cell? ⟨b, i * 3 + 2, none⟩ = some (.int .i64 (PT i j).f2) := (hce (i * 3 + 2) (by omega)).trans (HCEL.out i j (by omega) 2 (by omega))
                        clear hfb hi1
                        by_cases hik : i < k
                        · have hik1 : (i : Int) < (k : Int) := by omega
                          have r0 : wr.cell? ⟨b, i1 * 3, none⟩ = some (.int .i64 (PT i1 j).f0) := (hce (i1 * 3) (by have := HI1.out; omega)).trans (HCEL.out i1 j (by have := HI1.out; omega) 0 (by omega))
                          have r1 : wr.cell? ⟨b, i1 * 3 + 1, none⟩ = some (.int .i64 (PT i1 j).f1) := (hce (i1 * 3 + 1) (by have := HI1.out; omega)).trans (HCEL.out i1 j (by have := HI1.out; omega) 1 (by omega))
                          have r2 : wr.cell? ⟨b, i1 * 3 + 2, none⟩ = some (.int .i64 (PT i1 j).f2) := (hce (i1 * 3 + 2) (by have := HI1.out; omega)).trans (HCEL.out i1 j (by have := HI1.out; omega) 2 (by omega))
                          have hi1k : i1 < k + 1 := by have := HI1.out; omega
                          have hi1I : (i1 : Int) < (k : Int) + 1 := by omega
                          cases hnr : nearB (PT i j) (PT i1 j) most
                          · rw [hnr] at HFRt
                            clear hce
                            go_wp2
                            (first | refine region_q2 (by kernel_rfl) (by kernel_rfl) ?_ | refine region_q (by kernel_rfl) (by kernel_rfl) ?_)
                            repeat (first | go_big_quiet_skip | (go_big_quiet_want; go_simp; go_big_quiet_on))
                            (refine wpQuiet_step (fun K hK => ?_); go_simp; refine ⟨_, fun zt => ext_below (HFRt.out _), hK _ ?_⟩; clear hK K)
                            repeat (first | go_big_quiet_skip | (go_big_quiet_want; go_simp; go_big_quiet_on))
                            (refine wpQuiet_nil ?_; intro X nX)
                            go_wp2
                            go_roundw
                            case rel => exact ⟨false, i1, by have := HI1.out; omega, by go_num, rfl, HBI.out.trans (Below.mono (show Below wr.heap.size wr _ from (by repeat (first | exact Below.refl _ _ | refine Below.drew ?_ | refine Below.alloc ?_ (by first | exact Nat.le_refl _ | (simp; done) | (simp; omega) | omega) _ | refine Below.more ?_ (by first | exact Nat.le_refl _ | (simp; done) | (simp; omega) | omega) _ _ | refine Below.setCell ?_ (by first | exact Nat.le_refl _ | (simp; done) | (simp; omega) | omega) _ | assumption))) HBI.out.size), fun h => (by cases h), fun _ => HF1.out (HFB1.out (by simp [*]))⟩
                            case measure => have := HI1.out; simp [intOf]; omega
                          · rw [hnr] at HFRt
                            by_cases hjk : j < k
                            · have hjk1 : (j : Int) < (k : Int) := by omega
                              have hj1k : j1 < k + 1 := by have := HJ1.out; omega
                              have hj1I : (j1 : Int) < (k : Int) + 1 := by omega
                              obtain ⟨g2, cap2, b', kap', hv2, _, hbl2, hhd2, hce2⟩ := (HGD.out.below HBI.out).read (fun j _ => HLEN.out j) hj1k
                              cases hv2
                              have u0' : wr.cell? ⟨b', i * 3, none⟩ = some (.int .i64 (PT i j1).f0) := (hce2 (i * 3) (by omega)).trans (HCEL.out i j1 (by omega) 0 (by omega))
                              have u1' : wr.cell? ⟨b', i * 3 + 1, none⟩ = some (.int .i64 (PT i j1).f1) := (hce2 (i * 3 + 1) (by omega)).trans (HCEL.out i j1 (by omega) 1 (by omega))
                              have u2' : wr.cell? ⟨b', i * 3 + 2, none⟩ = some (.int .i64 (PT i j1).f2) := (hce2 (i * 3 + 2) (by omega)).trans (HCEL.out i j1 (by omega) 2 (by omega))
                              clear hce2
                              cases hnd : nearB (PT i j) (PT i j1) most
                              · rw [hnd] at HFU
                                clear hce
                                go_wp2
                                (first | refine region_q2 (by kernel_rfl) (by kernel_rfl) ?_ | refine region_q (by kernel_rfl) (by kernel_rfl) ?_)
                                repeat (first | go_big_quiet_skip | (go_big_quiet_want; go_simp; go_big_quiet_on))
                                (refine wpQuiet_step (fun K hK => ?_); go_simp; refine ⟨_, fun zt => ext_below (HFRt.out _), hK _ ?_⟩; clear hK K)
                                repeat (first | go_big_quiet_skip | (go_big_quiet_want; go_simp; go_big_quiet_on))
                                (refine wpQuiet_step (fun K hK => ?_); go_simp; refine ⟨_, fun zt => ext_below (HFU.out _), hK _ ?_⟩; clear hK K)
                                repeat (first | go_big_quiet_skip | (go_big_quiet_want; go_simp; go_big_quiet_on))
                                (refine wpQuiet_nil ?_; intro X nX)
                                go_wp2
                                go_roundw
                                case rel => exact ⟨false, i1, by have := HI1.out; omega, by go_num, rfl, HBI.out.trans (Below.mono (show Below wr.heap.size wr _ from (by repeat (first | exact Below.refl _ _ | refine Below.drew ?_ | refine Below.alloc ?_ (by first | exact Nat.le_refl _ | (simp; done) | (simp; omega) | omega) _ | refine Below.more ?_ (by first | exact Nat.le_refl _ | (simp; done) | (simp; omega) | omega) _ _ | refine Below.setCell ?_ (by first | exact Nat.le_refl _ | (simp; done) | (simp; omega) | omega) _ | assumption))) HBI.out.size), fun h => (by cases h), fun _ => HF1.out (HFB1.out (by simp [*]))⟩
                                case measure => have := HI1.out; simp [intOf]; omega
                              · rw [hnd] at HFU
                                clear hce
                                go_wp2
                                (first | refine region_q2 (by kernel_rfl) (by kernel_rfl) ?_ | refine region_q (by kernel_rfl) (by kernel_rfl) ?_)
                                repeat (first | go_big_quiet_skip | (go_big_quiet_want; go_simp; go_big_quiet_on))
                                (refine wpQuiet_step (fun K hK => ?_); go_simp; refine ⟨_, fun zt => ext_below (HFRt.out _), hK _ ?_⟩; clear hK K)
                                repeat (first | go_big_quiet_skip | (go_big_quiet_want; go_simp; go_big_quiet_on))
                                (refine wpQuiet_step (fun K hK => ?_); go_simp; refine ⟨_, fun zt => ext_below (HFU.out _), hK _ ?_⟩; clear hK K)
                                repeat (first | go_big_quiet_skip | (go_big_quiet_want; go_simp; go_big_quiet_on))
                                (refine wpQuiet_nil ?_; intro X nX)
                                go_wp2
                                go_roundw
                                case rel => exact ⟨ok, i1, by have := HI1.out; omega, by go_num, rfl, HBI.out.trans (Below.mono (show Below wr.heap.size wr _ from (by repeat (first | exact Below.refl _ _ | refine Below.drew ?_ | refine Below.alloc ?_ (by first | exact Nat.le_refl _ | (simp; done) | (simp; omega) | omega) _ | refine Below.more ?_ (by first | exact Nat.le_refl _ | (simp; done) | (simp; omega) | omega) _ _ | refine Below.setCell ?_ (by first | exact Nat.le_refl _ | (simp; done) | (simp; omega) | omega) _ | assumption))) HBI.out.size), fun h => HNX1.out h (HFB0.out (by simp [*])), HBF.out⟩
                                case measure => have := HI1.out; simp [intOf]; omega
                            · have hjk1 : ¬ (j : Int) < (k : Int) := by omega
                              clear hce
                              go_wp2
                              (first | refine region_q2 (by kernel_rfl) (by kernel_rfl) ?_ | refine region_q (by kernel_rfl) (by kernel_rfl) ?_)
                              repeat (first | go_big_quiet_skip | (go_big_quiet_want; go_simp; go_big_quiet_on))
                              (refine wpQuiet_step (fun K hK => ?_); go_simp; refine ⟨_, fun zt => ext_below (HFRt.out _), hK _ ?_⟩; clear hK K)
                              repeat (first | go_big_quiet_skip | (go_big_quiet_want; go_simp; go_big_quiet_on))
                              (refine wpQuiet_nil ?_; intro X nX)
                              go_wp2
                              go_roundw
                              case rel => exact ⟨ok, i1, by have := HI1.out; omega, by go_num, rfl, HBI.out.trans (Below.mono (show Below wr.heap.size wr _ from (by repeat (first | exact Below.refl _ _ | refine Below.drew ?_ | refine Below.alloc ?_ (by first | exact Nat.le_refl _ | (simp; done) | (simp; omega) | omega) _ | refine Below.more ?_ (by first | exact Nat.le_refl _ | (simp; done) | (simp; omega) | omega) _ _ | refine Below.setCell ?_ (by first | exact Nat.le_refl _ | (simp; done) | (simp; omega) | omega) _ | assumption))) HBI.out.size), fun h => HNX1.out h (HFB0.out (by simp [*])), HBF.out⟩
                              case measure => have := HI1.out; simp [intOf]; omega
                        · have hik1 : ¬ (i : Int) < (k : Int) := by omega
                          by_cases hjk : j < k
                          · have hjk1 : (j : Int) < (k : Int) := by omega
                            have hj1k : j1 < k + 1 := by have := HJ1.out; omega
                            have hj1I : (j1 : Int) < (k : Int) + 1 := by omega
                            obtain ⟨g2, cap2, b', kap', hv2, _, hbl2, hhd2, hce2⟩ := (HGD.out.below HBI.out).read (fun j _ => HLEN.out j) hj1k
                            cases hv2
                            have u0' : wr.cell? ⟨b', i * 3, none⟩ = some (.int .i64 (PT i j1).f0) := (hce2 (i * 3) (by omega)).trans (HCEL.out i j1 (by omega) 0 (by omega))
                            have u1' : wr.cell? ⟨b', i * 3 + 1, none⟩ = some (.int .i64 (PT i j1).f1) := (hce2 (i * 3 + 1) (by omega)).trans (HCEL.out i j1 (by omega) 1 (by omega))
                            have u2' : wr.cell? ⟨b', i * 3 + 2, none⟩ = some (.int .i64 (PT i j1).f2) := (hce2 (i * 3 + 2) (by omega)).trans (HCEL.out i j1 (by omega) 2 (by omega))
                            clear hce2
                            cases hnd : nearB (PT i j) (PT i j1) most
                            · rw [hnd] at HFU
                              clear hce
                              go_wp2
                              (first | refine region_q2 (by kernel_rfl) (by kernel_rfl) ?_ | refine region_q (by kernel_rfl) (by kernel_rfl) ?_)
                              repeat (first | go_big_quiet_skip | (go_big_quiet_want; go_simp; go_big_quiet_on))
                              (refine wpQuiet_step (fun K hK => ?_); go_simp; refine ⟨_, fun zt => ext_below (HFU.out _), hK _ ?_⟩; clear hK K)
                              repeat (first | go_big_quiet_skip | (go_big_quiet_want; go_simp; go_big_quiet_on))
                              (refine wpQuiet_nil ?_; intro X nX)
                              go_wp2
                              go_roundw
                              case rel => exact ⟨false, i1, by have := HI1.out; omega, by go_num, rfl, HBI.out.trans (Below.mono (show Below wr.heap.size wr _ from (by repeat (first | exact Below.refl _ _ | refine Below.drew ?_ | refine Below.alloc ?_ (by first | exact Nat.le_refl _ | (simp; done) | (simp; omega) | omega) _ | refine Below.more ?_ (by first | exact Nat.le_refl _ | (simp; done) | (simp; omega) | omega) _ _ | refine Below.setCell ?_ (by first | exact Nat.le_refl _ | (simp; done) | (simp; omega) | omega) _ | assumption))) HBI.out.size), fun h => (by cases h), fun _ => HF1.out (HFB1.out (by simp [*]))⟩
                              case measure => have := HI1.out; simp [intOf]; omega
                            · rw [hnd] at HFU
                              clear hce
                              go_wp2
                              (first | refine region_q2 (by kernel_rfl) (by kernel_rfl) ?_ | refine region_q (by kernel_rfl) (by kernel_rfl) ?_)
                              repeat (first | go_big_quiet_skip | (go_big_quiet_want; go_simp; go_big_quiet_on))
                              (refine wpQuiet_step (fun K hK => ?_); go_simp; refine ⟨_, fun zt => ext_below (HFU.out _), hK _ ?_⟩; clear hK K)
                              repeat (first | go_big_quiet_skip | (go_big_quiet_want; go_simp; go_big_quiet_on))
                              (refine wpQuiet_nil ?_; intro X nX)
                              go_wp2
                              go_roundw
                              case rel => exact ⟨ok, i1, by have := HI1.out; omega, by go_num, rfl, HBI.out.trans (Below.mono (show Below wr.heap.size wr _ from (by repeat (first | exact Below.refl _ _ | refine Below.drew ?_ | refine Below.alloc ?_ (by first | exact Nat.le_refl _ | (simp; done) | (simp; omega) | omega) _ | refine Below.more ?_ (by first | exact Nat.le_refl _ | (simp; done) | (simp; omega) | omega) _ _ | refine Below.setCell ?_ (by first | exact Nat.le_refl _ | (simp; done) | (simp; omega) | omega) _ | assumption))) HBI.out.size), fun h => HNX1.out h (HFB0.out (by simp [*])), HBF.out⟩
                              case measure => have := HI1.out; simp [intOf]; omega
                          · have hjk1 : ¬ (j : Int) < (k : Int) := by omega
                            clear hce
                            go_wp2
                            (first | refine region_q2 (by kernel_rfl) (by kernel_rfl) ?_ | refine region_q (by kernel_rfl) (by kernel_rfl) ?_)
                            repeat (first | go_big_quiet_skip | (go_big_quiet_want; go_simp; go_big_quiet_on))
                            (refine wpQuiet_nil ?_; intro X nX)
                            go_wp2
                            go_roundw
                            case rel => exact ⟨ok, i1, by have := HI1.out; omega, by go_num, rfl, HBI.out.trans (Below.mono (show Below wr.heap.size wr _ from (by repeat (first | exact Below.refl _ _ | refine Below.drew ?_ | refine Below.alloc ?_ (by first | exact Nat.le_refl _ | (simp; done) | (simp; omega) | omega) _ | refine Below.more ?_ (by first | exact Nat.le_refl _ | (simp; done) | (simp; omega) | omega) _ _ | refine Below.setCell ?_ (by first | exact Nat.le_refl _ | (simp; done) | (simp; omega) | omega) _ | assumption))) HBI.out.size), fun h => HNX1.out h (HFB0.out (by simp [*])), HBF.out⟩
                            case measure => have := HI1.out; simp [intOf]; omega
                      · obtain rfl : i = k + 1 := by omega
                        have hnl : ¬ ((k + 1 : Nat) : Int) ≤ (k : Int) := by omega
                        have HALL := Lib.hid (show ok = true → ∀ i' j', i' ≤ k → j' < j1 → FB i' j' = false from fun h i' j' h1 h2 => by
                          have := HJ1.out
                          by_cases he : j' = j
                          · rw [he]; exact HGI.out h i' (by omega)
                          · exact HGJ.out (by first | rfl | trivial) i' j' h1 (by omega))
                        go_wp2
                        go_roundw
                        case rel => exact ⟨ok, j1, by have := HJ1.out; omega, by go_num, rfl, HBI.out, HALL.out, HBF.out⟩
                        case measure => have := HJ1.out; simp [intOf]; omega
                  · obtain rfl : j = k + 1 := by omega
                    have hnl : ¬ ((k + 1 : Nat) : Int) ≤ (k : Int) := by omega
                    have HE := Lib.hid (HFIN.out (HFK.out.yes HYES.out (fun i j h1 h2 => HGJ.out (by first | rfl | trivial) i j h1 (by omega))))
                    go_wp2
                    go_ret
                    exact ⟨by rw [HE.out]; rfl, HB0.out.trans ((HB2B.out.trans (HBJ.out.mono HB2B.out.size)).mono HB0.out.size)⟩
end Go.Proofs.Ytkdkdejgajcneaa
