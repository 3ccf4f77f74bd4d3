/- Contracts of DiceRate. -/
import Derived.Test.YtkdkdejgajcneaaFine
import Derived.Test.YtkdkdejgajcneaaValidPatch
namespace Go.Proofs.Ytkdkdejgajcneaa
open Go Go.RowKit
set_option linter.unusedVariables false
def CamD.ok (c : CamD) : Bool := camOk c.W c.H c.Z c.N c.L c.F
def PatD.ok (p : PatD) : Bool := patOk p.t0 p.t1 p.t2 p.t3 p.t4 p.t5 p.t6 p.t7 p.t8 p.t9 p.t10 p.t11
/-- The rate of a patch. -/
def rateD (c : CamD) (p : PatD) (most : Int) : Int :=
  if c.ok && p.ok && inB most 1 1000 then (if fineB c p 1 most then 1 else if fineB c p 2 most then 2 else if fineB c p 4 most then 4 else 8) else 0
theorem rate_no {c : CamD} {p : PatD} {most : Int} (h : (c.ok && p.ok && inB most 1 1000) = false) : rateD c p most = 0 := by unfold rateD; rw [h]; rfl
/-- The rates that were tried before k were not fine enough. -/
def Tried (c : CamD) (p : PatD) (most : Int) (k : Nat) : Prop := (1 < k → fineB c p 1 most = false) ∧ (2 < k → fineB c p 2 most = false) ∧ (4 < k → fineB c p 4 most = false)
theorem rate_at {c : CamD} {p : PatD} {most : Int} {k : Nat} (h : (c.ok && p.ok && inB most 1 1000) = true) (hk : k = 1 ∨ k = 2 ∨ k = 4) (ht : Tried c p most k) (hf : fineB c p k most = true) : rateD c p most = (k : Int) := by
  unfold rateD
  rw [h, if_pos rfl]
  obtain ⟨h1, h2, h4⟩ := ht
  rcases hk with rfl | rfl | rfl
  · rw [hf]; rfl
  · rw [h1 (by omega), hf]; rfl
  · rw [h1 (by omega), h2 (by omega), hf]; rfl
theorem rate_end {c : CamD} {p : PatD} {most : Int} (h : (c.ok && p.ok && inB most 1 1000) = true) (ht : Tried c p most 8) : rateD c p most = 8 := by
  unfold rateD
  obtain ⟨h1, h2, h4⟩ := ht
  rw [h, if_pos rfl, h1 (by omega), h2 (by omega), h4 (by omega)]; rfl
theorem Tried.next {c : CamD} {p : PatD} {most : Int} {k : Nat} (hk : k = 1 ∨ k = 2 ∨ k = 4) (ht : Tried c p most k) (hf : fineB c p k most = false) : Tried c p most (k * 2) := by
  obtain ⟨h1, h2, h4⟩ := ht
  rcases hk with rfl | rfl | rfl
  · exact ⟨fun _ => hf, fun h => by omega, fun h => by omega⟩
  · exact ⟨fun _ => h1 (by omega), fun _ => hf, fun h => by omega⟩
  · exact ⟨fun _ => h1 (by omega), fun _ => h2 (by omega), fun _ => hf⟩
theorem rate_pos {c : CamD} {p : PatD} {most : Int} (h : (c.ok && p.ok && inB most 1 1000) = true) : 0 < rateD c p most := by
  unfold rateD
  rw [h, if_pos rfl]
  split
  · decide
  · split
    · decide
    · split <;> decide
theorem impl_fine_c (c : CamD) (p : PatD) (k : Nat) (hk1 : 1 ≤ k) (hk8 : k ≤ 8) (most : Int) (w : World) :
    Calls Try.prog 65 #[c.val, p.val, .int .i64 (k : Int), .int .i64 most] w fun e w' => e = .returned (.bool (fineB c p k most)) ∧ Below w.heap.size w w' :=
  impl_fine_w c p k hk1 hk8 most _ _ _ _ (fineF c p k most) (fun i j hi hj => ⟨_, _, _, impl_pt c p i j k 0 0 (by simp [evOk, inB_true]; omega)⟩) (fun i j => scV_bd _ _ _ _) w
set_option maxRecDepth 100000 in
set_option maxHeartbeats 8000000 in
theorem impl_DiceRate_c (c : CamD) (p : PatD) (most : Int) (w : World) :
    Calls Try.prog 21 #[c.val, p.val, .int .i64 most] w fun e w' => e = .returned (.int .i64 (rateD c p most)) ∧ Below w.heap.size w w' := by
  cases h1 : c.ok
  · have HR := Lib.hid (rate_no (c := c) (p := p) (most := most) (by simp [h1]))
    go_enter Try.func21, Try.ntmps21
    go_wp2_with (go_at_call 63; refine (impl_IsValidCamera _ _ _ _ _ _ _ _).mono ?_; rw [show camOk c.W c.H c.Z c.N c.L c.F = false from h1]; rintro e wn ⟨rfl, hbn⟩; obtain ⟨X, nX, rfl⟩ := Below.ext hbn; clear hbn)
    go_ret
    exact ⟨by rw [HR.out]; rfl, (by repeat (first | exact Below.refl _ _ | refine Below.drew ?_ | refine Below.alloc ?_ (by first | exact Nat.le_refl _ | (simp; done) | (simp; omega) | omega) _ | refine Below.more ?_ (by first | exact Nat.le_refl _ | (simp; done) | (simp; omega) | omega) _ _ | refine Below.setCell ?_ (by first | exact Nat.le_refl _ | (simp; done) | (simp; omega) | omega) _ | assumption))⟩
  · cases h2 : p.ok
    · have HR := Lib.hid (rate_no (c := c) (p := p) (most := most) (by simp [h2]))
      go_enter Try.func21, Try.ntmps21
      go_wp2_with (first | (go_at_call 63; refine (impl_IsValidCamera _ _ _ _ _ _ _ _).mono ?_; rw [show camOk c.W c.H c.Z c.N c.L c.F = true from h1]; rintro e wn ⟨rfl, hbn⟩; obtain ⟨X, nX, rfl⟩ := Below.ext hbn; clear hbn) | (go_at_call 64; refine (impl_IsValidPatch _ _ _ _ _ _ _ _ _ _ _ _ _).mono ?_; rw [show patOk p.t0 p.t1 p.t2 p.t3 p.t4 p.t5 p.t6 p.t7 p.t8 p.t9 p.t10 p.t11 = false from h2]; rintro e wn ⟨rfl, hbn⟩; obtain ⟨X, nX, rfl⟩ := Below.ext hbn; clear hbn))
      go_ret
      exact ⟨by rw [HR.out]; rfl, (by repeat (first | exact Below.refl _ _ | refine Below.drew ?_ | refine Below.alloc ?_ (by first | exact Nat.le_refl _ | (simp; done) | (simp; omega) | omega) _ | refine Below.more ?_ (by first | exact Nat.le_refl _ | (simp; done) | (simp; omega) | omega) _ _ | refine Below.setCell ?_ (by first | exact Nat.le_refl _ | (simp; done) | (simp; omega) | omega) _ | assumption))⟩
    · cases h3 : inB most 1 1000
      · have HR := Lib.hid (rate_no (c := c) (p := p) (most := most) (by simp [h3]))
        go_enter Try.func21, Try.ntmps21
        go_wp2_with (first | (go_at_call 63; refine (impl_IsValidCamera _ _ _ _ _ _ _ _).mono ?_; rw [show camOk c.W c.H c.Z c.N c.L c.F = true from h1]; rintro e wn ⟨rfl, hbn⟩; obtain ⟨X, nX, rfl⟩ := Below.ext hbn; clear hbn) | (go_at_call 64; refine (impl_IsValidPatch _ _ _ _ _ _ _ _ _ _ _ _ _).mono ?_; rw [show patOk p.t0 p.t1 p.t2 p.t3 p.t4 p.t5 p.t6 p.t7 p.t8 p.t9 p.t10 p.t11 = true from h2]; rintro e wn ⟨rfl, hbn⟩; obtain ⟨X, nX, rfl⟩ := Below.ext hbn; clear hbn) | (go_at_call 62; refine (within_c _ _ _ _).mono ?_; rw [h3]; rintro e w' ⟨rfl, rfl⟩))
        go_ret
        exact ⟨by rw [HR.out]; rfl, (by repeat (first | exact Below.refl _ _ | refine Below.drew ?_ | refine Below.alloc ?_ (by first | exact Nat.le_refl _ | (simp; done) | (simp; omega) | omega) _ | refine Below.more ?_ (by first | exact Nat.le_refl _ | (simp; done) | (simp; omega) | omega) _ _ | refine Below.setCell ?_ (by first | exact Nat.le_refl _ | (simp; done) | (simp; omega) | omega) _ | assumption))⟩
      · have HOK := Lib.hid (show (c.ok && p.ok && inB most 1 1000) = true by simp [h1, h2, h3])
        have HAT := Lib.hid (fun k hk (ht : Tried c p most k) hf => rate_at HOK.out hk ht hf)
        have HEN := Lib.hid (fun (ht : Tried c p most 8) => rate_end HOK.out ht)
        have HNX := Lib.hid (fun k hk (ht : Tried c p most k) hf => Tried.next hk ht hf)
        have HT0 := Lib.hid (show Tried c p most 1 from ⟨fun h => by omega, fun h => by omega, fun h => by omega⟩)
        have HFI := Lib.hid (fun k h1 h8 w => impl_fine_c c p k h1 h8 most w)
        generalize rateD c p most = R at *
        obtain ⟨BW, hBW⟩ : ∃ BW, BW = (w.alloc (.cells ⟨c.cells⟩ 24)).alloc (.cells ⟨p.cells⟩ 30) := ⟨_, rfl⟩
        have HBX := Lib.hid (show CPBox BW w.heap.size c p by rw [hBW]; exact CPBox.new w c p)
        have HB0 := Lib.hid (show Below w.heap.size w BW by rw [hBW]; exact (by repeat (first | exact Below.refl _ _ | refine Below.drew ?_ | refine Below.alloc ?_ (by first | exact Nat.le_refl _ | (simp; done) | (simp; omega) | omega) _ | refine Below.more ?_ (by first | exact Nat.le_refl _ | (simp; done) | (simp; omega) | omega) _ _ | refine Below.setCell ?_ (by first | exact Nat.le_refl _ | (simp; done) | (simp; omega) | omega) _ | assumption)))
        have hsz : w.heap.size + 1 < BW.heap.size := by rw [hBW]; simp
        have hsz0 : w.heap.size < BW.heap.size := by omega
        have HW := Lib.hid hBW
        clear hBW HOK
        go_enter Try.func21, Try.ntmps21
        go_wp2_with (first | (go_at_call 63; refine (impl_IsValidCamera _ _ _ _ _ _ _ _).mono ?_; rw [show camOk c.W c.H c.Z c.N c.L c.F = true from h1]; rintro e wn ⟨rfl, hbn⟩; obtain ⟨X, nX, rfl⟩ := Below.ext hbn; clear hbn) | (go_at_call 64; refine (impl_IsValidPatch _ _ _ _ _ _ _ _ _ _ _ _ _).mono ?_; rw [show patOk p.t0 p.t1 p.t2 p.t3 p.t4 p.t5 p.t6 p.t7 p.t8 p.t9 p.t10 p.t11 = true from h2]; rintro e wn ⟨rfl, hbn⟩; obtain ⟨X, nX, rfl⟩ := Below.ext hbn; clear hbn) | (go_at_call 62; refine (within_c _ _ _ _).mono ?_; rw [h3]; rintro e w' ⟨rfl, rfl⟩))
        go_loopw [7] (fun n wr => ∃ k : Nat, (k = 1 ∨ k = 2 ∨ k = 4 ∨ k = 8) ∧ n = .int .i64 k ∧ Below BW.heap.size BW wr ∧ Tried c p most k) (fun n _ => 8 - (intOf n).toNat)
        case atStart =>
          have hW := HW.out
          refine ⟨1, .inl rfl, rfl, ?_, HT0.out⟩
          rw [hW]
          exact (by repeat (first | exact Below.refl _ _ | refine Below.drew ?_ | refine Below.alloc ?_ (by first | exact Nat.le_refl _ | (simp; done) | (simp; omega) | omega) _ | refine Below.more ?_ (by first | exact Nat.le_refl _ | (simp; done) | (simp; omega) | omega) _ _ | refine Below.setCell ?_ (by first | exact Nat.le_refl _ | (simp; done) | (simp; omega) | omega) _ | assumption))
        case round =>
          obtain ⟨k, hk, rfl, hbel, htr⟩ := hrel
          have hbx := HBX.out.kept hbel
          have hl1 : w.heap.size + 1 < wr.heap.size := by have := hbel.size; omega
          have hl0 : w.heap.size < wr.heap.size := by omega
          have HTR := Lib.hid htr
          have HBEL := Lib.hid hbel
          clear htr hbel
          by_cases h8 : k = 8
          · subst h8
            have HE := Lib.hid (HEN.out HTR.out)
            go_wp2
            go_ret
            exact ⟨by rw [HE.out]; rfl, HB0.out.trans (HBEL.out.mono HB0.out.size)⟩
          · have hk4 : k = 1 ∨ k = 2 ∨ k = 4 := by omega
            have HK := Lib.hid hk4
            have hlt : (k : Int) < 8 := by omega
            have qk : IntKind.i64.wrap ((k : Int) * 2) = ((k * 2 : Nat) : Int) := by rw [show ((k * 2 : Nat) : Int) = (k : Int) * 2 by omega]; exact IntWalk.i64_in _ (by omega)
            have c0 : wr.cell? ⟨w.heap.size, 0, none⟩ = some (.int .i64 c.W) := hbx.cc 0
            have c1 : wr.cell? ⟨w.heap.size, 1, none⟩ = some (.int .i64 c.H) := hbx.cc 1
            have c2 : wr.cell? ⟨w.heap.size, 2, none⟩ = some (.int .i64 c.Z) := hbx.cc 2
            have c3 : wr.cell? ⟨w.heap.size, 3, none⟩ = some (.int .i64 c.N) := hbx.cc 3
            have c5 : wr.cell? ⟨w.heap.size, 5, none⟩ = some (.int .i64 c.L) := hbx.cc 5
            have c6 : wr.cell? ⟨w.heap.size, 6, none⟩ = some (.int .i64 c.F) := hbx.cc 6
            have d0 : wr.cell? ⟨w.heap.size + 1, 0, none⟩ = some (.int .i64 p.t0) := hbx.cp 0
            have d1 : wr.cell? ⟨w.heap.size + 1, 1, none⟩ = some (.int .i64 p.t1) := hbx.cp 1
            have d2 : wr.cell? ⟨w.heap.size + 1, 2, none⟩ = some (.int .i64 p.t2) := hbx.cp 2
            have d3 : wr.cell? ⟨w.heap.size + 1, 3, none⟩ = some (.int .i64 p.t3) := hbx.cp 3
            have d4 : wr.cell? ⟨w.heap.size + 1, 4, none⟩ = some (.int .i64 p.t4) := hbx.cp 4
            have d5 : wr.cell? ⟨w.heap.size + 1, 5, none⟩ = some (.int .i64 p.t5) := hbx.cp 5
            have d6 : wr.cell? ⟨w.heap.size + 1, 6, none⟩ = some (.int .i64 p.t6) := hbx.cp 6
            have d7 : wr.cell? ⟨w.heap.size + 1, 7, none⟩ = some (.int .i64 p.t7) := hbx.cp 7
            have d8 : wr.cell? ⟨w.heap.size + 1, 8, none⟩ = some (.int .i64 p.t8) := hbx.cp 8
            have d9 : wr.cell? ⟨w.heap.size + 1, 9, none⟩ = some (.int .i64 p.t9) := hbx.cp 9
            have d10 : wr.cell? ⟨w.heap.size + 1, 10, none⟩ = some (.int .i64 p.t10) := hbx.cp 10
            have d11 : wr.cell? ⟨w.heap.size + 1, 11, none⟩ = some (.int .i64 p.t11) := hbx.cp 11
            have c4 : wr.cell? ⟨w.heap.size, 4, none⟩ = some (.bool c.D) := hbx.cc 4
            have HF2 := Lib.hid (HFI.out k (by omega) (by omega))
            clear hbx hk hk4
            cases hf : fineB c p k most
            · rw [hf] at HF2
              go_wp2_with fail
              refine (HF2.out _).mono ?_
              rintro e w2 ⟨rfl, hb⟩
              have HB2 := Lib.hid hb
              clear hb
              go_wp2
              go_roundw
              case rel => exact ⟨k * 2, by have := HK.out; omega, by go_num, HBEL.out.trans (HB2.out.mono HBEL.out.size), HNX.out k HK.out HTR.out hf⟩
              case measure => have := HK.out; simp [intOf]; omega
            · rw [hf] at HF2
              have HE := Lib.hid (HAT.out k HK.out HTR.out hf)
              go_wp2_with fail
              refine (HF2.out _).mono ?_
              rintro e w2 ⟨rfl, hb⟩
              have HB2 := Lib.hid hb
              clear hb
              go_wp2
              go_ret
              exact ⟨by rw [HE.out]; rfl, HB0.out.trans ((HBEL.out.trans (HB2.out.mono HBEL.out.size)).mono HB0.out.size)⟩
end Go.Proofs.Ytkdkdejgajcneaa
