/- Fine, with Near, FineM ahead of it. -/
import Derived.Test.YtkdkdejgajcneaaDice
import Derived.Test.YtkdkdejgajcneaaDiceS2
namespace Go.Proofs.Ytkdkdejgajcneaa
open Go Go.RowKit
set_option linter.unusedVariables false
/-- Are two points of the screen close to each other? -/
def nearB (a b : VecD) (most : Int) : Bool := decide (((a.f0 - b.f0).natAbs : Int) ≤ most) && decide (((a.f1 - b.f1).natAbs : Int) ≤ most)
theorem nearB_comm (a b : VecD) (most : Int) : nearB a b most = nearB b a most := by
  unfold nearB
  rw [show (a.f0 - b.f0).natAbs = (b.f0 - a.f0).natAbs by omega, show (a.f1 - b.f1).natAbs = (b.f1 - a.f1).natAbs by omega]
structure VBd (a : VecD) : Prop where
  x : -100000 ≤ a.f0 ∧ a.f0 ≤ 100000
  y : -100000 ≤ a.f1 ∧ a.f1 ≤ 100000
theorem clampI_bd (x lo hi : Int) (h : lo ≤ hi) : lo ≤ clampI x lo hi ∧ clampI x lo hi ≤ hi := by unfold clampI; omega
theorem scV_bd (c : CamD) (v : VecD) (lx ly : Int) : VBd (scV c v lx ly) := by
  unfold scV
  cases scOk c v lx ly
  · exact ⟨by simp [ifI], by simp [ifI]⟩
  · exact ⟨by simp only [ifI, if_true, projI]; exact clampI_bd _ _ _ (by omega), by simp only [ifI, if_true, projI]; exact clampI_bd _ _ _ (by omega)⟩
set_option maxRecDepth 100000 in
theorem impl_near (a b : VecD) (most : Int) (ha : VBd a) (hb : VBd b) (w : World) :
    Calls Try.prog 99 #[vecV a.f0 a.f1 a.f2, vecV b.f0 b.f1 b.f2, .int .i64 most] w fun e w' => e = .returned (.bool (nearB a b most)) ∧ Below w.heap.size w w' := by
  obtain ⟨⟨a1, a2⟩, a3, a4⟩ := ha
  obtain ⟨⟨b1, b2⟩, b3, b4⟩ := hb
  have q0 : IntKind.i64.wrap (a.f0 - b.f0) = a.f0 - b.f0 := IntWalk.i64_in _ (by omega)
  have q1 : IntKind.i64.wrap (a.f1 - b.f1) = a.f1 - b.f1 := IntWalk.i64_in _ (by omega)
  by_cases h0 : ((a.f0 - b.f0).natAbs : Int) ≤ most
  · go_enter Try.func99, Try.ntmps99
    go_wp2_with (go_at_call 115; refine (impl_absolute _ _ (by omega) (by omega)).mono ?_; rintro e w' ⟨rfl, rfl⟩)
    go_ret
    exact ⟨by first | (simp [nearB, h0]; done) | (simp [nearB, q0, q1]; omega), (by repeat (first | exact Below.refl _ _ | refine Below.drew ?_ | refine Below.alloc ?_ (by first | exact Nat.le_refl _ | (simp; done) | (simp; omega) | omega) _ | refine Below.more ?_ (by first | exact Nat.le_refl _ | (simp; done) | (simp; omega) | omega) _ _ | refine Below.setCell ?_ (by first | exact Nat.le_refl _ | (simp; done) | (simp; omega) | omega) _ | assumption))⟩
  · go_enter Try.func99, Try.ntmps99
    go_wp2_with (go_at_call 115; refine (impl_absolute _ _ (by omega) (by omega)).mono ?_; rintro e w' ⟨rfl, rfl⟩)
    go_ret
    exact ⟨by first | (simp [nearB, h0]; done) | (simp [nearB, q0, q1]; omega), (by repeat (first | exact Below.refl _ _ | refine Below.drew ?_ | refine Below.alloc ?_ (by first | exact Nat.le_refl _ | (simp; done) | (simp; omega) | omega) _ | refine Below.more ?_ (by first | exact Nat.le_refl _ | (simp; done) | (simp; omega) | omega) _ _ | refine Below.setCell ?_ (by first | exact Nat.le_refl _ | (simp; done) | (simp; omega) | omega) _ | assumption))⟩
set_option maxRecDepth 100000 in
theorem spec_far (a b : VecD) (most : Int) (ha : VBd a) (hb : VBd b) (w : World) :
    Calls Try.prog 70 #[vecV a.f0 a.f1 a.f2, vecV b.f0 b.f1 b.f2, .int .i64 most] w fun e w' => e = .returned (.bool (!nearB a b most)) ∧ Below w.heap.size w w' := by
  obtain ⟨⟨a1, a2⟩, a3, a4⟩ := ha
  obtain ⟨⟨b1, b2⟩, b3, b4⟩ := hb
  have q0 : IntKind.i64.wrap (a.f0 - b.f0) = a.f0 - b.f0 := IntWalk.i64_in _ (by omega)
  have q1 : IntKind.i64.wrap (a.f1 - b.f1) = a.f1 - b.f1 := IntWalk.i64_in _ (by omega)
  have e1 : ∀ x : Int, decide (most < x) = !decide (x ≤ most) := fun x => by by_cases h : x ≤ most <;> simp [h] <;> omega
  by_cases h0 : ((a.f0 - b.f0).natAbs : Int) ≤ most
  · go_enter Try.func70, Try.ntmps70
    go_wp2_with (go_at_call 100; refine (spec_Abs _ _ (by first | omega | (rw [q1]; omega)) (by first | omega | (rw [q1]; omega))).mono ?_; rintro e w' ⟨rfl, rfl⟩)
    go_ret
    exact ⟨by first | (simp [nearB, h0]; done) | (simp only [e1]; simp [nearB, h0]; done) | (simp [nearB]; omega), (by repeat (first | exact Below.refl _ _ | refine Below.drew ?_ | refine Below.alloc ?_ (by first | exact Nat.le_refl _ | (simp; done) | (simp; omega) | omega) _ | refine Below.more ?_ (by first | exact Nat.le_refl _ | (simp; done) | (simp; omega) | omega) _ _ | refine Below.setCell ?_ (by first | exact Nat.le_refl _ | (simp; done) | (simp; omega) | omega) _ | assumption))⟩
  · go_enter Try.func70, Try.ntmps70
    go_wp2_with (go_at_call 100; refine (spec_Abs _ _ (by first | omega | (rw [q1]; omega)) (by first | omega | (rw [q1]; omega))).mono ?_; rintro e w' ⟨rfl, rfl⟩)
    go_ret
    exact ⟨by first | (simp [nearB, h0]; done) | (simp only [e1]; simp [nearB, h0]; done) | (simp [nearB]; omega), (by repeat (first | exact Below.refl _ _ | refine Below.drew ?_ | refine Below.alloc ?_ (by first | exact Nat.le_refl _ | (simp; done) | (simp; omega) | omega) _ | refine Below.more ?_ (by first | exact Nat.le_refl _ | (simp; done) | (simp; omega) | omega) _ _ | refine Below.setCell ?_ (by first | exact Nat.le_refl _ | (simp; done) | (simp; omega) | omega) _ | assumption))⟩
end Go.Proofs.Ytkdkdejgajcneaa
namespace Go.Proofs.Ytkdkdejgajcneaa
open Go Go.RowKit
set_option linter.unusedVariables false
/-- A grid point on the screen; is it there? -/
def gPt (c : CamD) (p : PatD) (n : Int) (i j : Nat) : VecD := scV c (evP p i j n) 0 0
def gOk (c : CamD) (p : PatD) (n : Int) (i j : Nat) : Bool := scOk c (evP p i j n) 0 0
/-- Is a point there, and near to the one on its left and to the one above? -/
def gGood (c : CamD) (p : PatD) (n most : Int) (i j : Nat) : Bool := gOk c p n i j && (decide (i = 0) || nearB (gPt c p n i j) (gPt c p n (i - 1) j) most) && (decide (j = 0) || nearB (gPt c p n i j) (gPt c p n i (j - 1)) most)
def fineB (c : CamD) (p : PatD) (k : Nat) (most : Int) : Bool := (List.range ((k + 1) * (k + 1))).all fun t => gGood c p k most (t % (k + 1)) (t / (k + 1))
theorem spot {i j k : Nat} (hi : i ≤ k) : (j * (k + 1) + i) % (k + 1) = i ∧ (j * (k + 1) + i) / (k + 1) = j := by
  constructor
  · rw [Nat.mul_comm, Nat.mul_add_mod, Nat.mod_eq_of_lt (by omega)]
  · rw [Nat.mul_comm, Nat.mul_add_div (by omega), Nat.div_eq_of_lt (by omega), Nat.add_zero]
theorem spot_lt {i j k : Nat} (hi : i ≤ k) (hj : j ≤ k) : j * (k + 1) + i < (k + 1) * (k + 1) := by
  have := Nat.mul_le_mul_right (k + 1) (show j + 1 ≤ k + 1 by omega)
  rw [Nat.add_mul, Nat.one_mul] at this
  omega
theorem of_spot {k t : Nat} (h : t < (k + 1) * (k + 1)) : t % (k + 1) ≤ k ∧ t / (k + 1) ≤ k ∧ t / (k + 1) * (k + 1) + t % (k + 1) = t := by
  refine ⟨by have := Nat.mod_lt t (show 0 < k + 1 by omega); omega, by have := Nat.div_lt_of_lt_mul h; omega, by rw [Nat.mul_comm]; exact Nat.div_add_mod _ _⟩
/-- What a walk of fine asks. -/
structure FineF (k : Nat) (most : Int) (PT : Nat → Nat → VecD) (OK : Nat → Nat → Bool) (GD : Nat → Bool) (R : Bool) : Prop where
  b0 : ∀ i j, i ≤ k → j ≤ k → OK i j = false → R = false
  b1 : ∀ i j, i ≤ k → j ≤ k → 0 < i → nearB (PT i j) (PT (i - 1) j) most = false → R = false
  b2 : ∀ i j, i ≤ k → j ≤ k → 0 < j → nearB (PT i j) (PT i (j - 1)) most = false → R = false
  yes : (∀ t, t < (k + 1) * (k + 1) → GD t = true) → R = true
  good : ∀ i j, i ≤ k → OK i j = true → (0 < i → nearB (PT i j) (PT (i - 1) j) most = true) → (0 < j → nearB (PT i j) (PT i (j - 1)) most = true) → GD (j * (k + 1) + i) = true
theorem fineF (c : CamD) (p : PatD) (k : Nat) (most : Int) : FineF k most (gPt c p k) (gOk c p k) (fun t => gGood c p k most (t % (k + 1)) (t / (k + 1))) (fineB c p k most) := by
  have hno : ∀ i j, i ≤ k → j ≤ k → gGood c p k most i j = false → fineB c p k most = false := fun i j hi hj h => by
    cases hf : fineB c p k most
    · rfl
    · rw [fineB, List.all_eq_true] at hf
      have := hf _ (List.mem_range.2 (spot_lt hi hj))
      rw [(spot hi).1, (spot hi).2, h] at this
      cases this
  refine ⟨fun i j hi hj h => hno i j hi hj (by simp [gGood, h]), fun i j hi hj h0 h => hno i j hi hj ?_, fun i j hi hj h0 h => hno i j hi hj ?_, fun h => ?_, fun i j hi h h1 h2 => ?_⟩
  · have : decide (i = 0) = false := by simp; omega
    simp [gGood, h, this]
  · have : decide (j = 0) = false := by simp; omega
    simp [gGood, h, this]
  · rw [fineB, List.all_eq_true]
    exact fun t ht => h t (List.mem_range.1 ht)
  · rw [(spot hi).1, (spot hi).2]
    by_cases hi0 : i = 0
    · by_cases hj0 : j = 0
      · simp [gGood, h, hi0, hj0] at *; simp [h]
      · simp [gGood, h, hi0, h2 (by omega)] at *; simp [h, h2 (by omega)]
    · by_cases hj0 : j = 0
      · simp [gGood, h, hj0] at *; simp [h, h1 (by omega)]
      · simp [gGood, h, h1 (by omega), h2 (by omega)]
/-- The same, told the other way round: each point against the one on its right and the one below. -/
theorem fineB_iff (c : CamD) (p : PatD) (k : Nat) (most : Int) : fineB c p k most = true ↔ (∀ i j, i ≤ k → j ≤ k → gOk c p k i j = true) ∧ ∀ i j, i ≤ k → j ≤ k → (i < k → nearB (gPt c p k i j) (gPt c p k (i + 1) j) most = true) ∧ (j < k → nearB (gPt c p k i j) (gPt c p k i (j + 1)) most = true) := by
  have F := fineF c p k most
  constructor
  · intro h
    refine ⟨fun i j hi hj => ?_, fun i j hi hj => ⟨fun h1 => ?_, fun h1 => ?_⟩⟩
    · cases h0 : gOk c p k i j
      · rw [F.b0 i j hi hj h0] at h; cases h
      · rfl
    · rw [nearB_comm]
      cases h0 : nearB (gPt c p k (i + 1) j) (gPt c p k i j) most
      · rw [F.b1 (i + 1) j (by omega) hj (by omega) h0] at h; cases h
      · rfl
    · rw [nearB_comm]
      cases h0 : nearB (gPt c p k i (j + 1)) (gPt c p k i j) most
      · rw [F.b2 i (j + 1) hi (by omega) (by omega) h0] at h; cases h
      · rfl
  · rintro ⟨h1, h2⟩
    refine F.yes fun t ht => ?_
    obtain ⟨a1, a2, a3⟩ := of_spot ht
    have := F.good (t % (k + 1)) (t / (k + 1)) a1 (h1 _ _ a1 a2) (fun h0 => ?_) (fun h0 => ?_)
    · rw [a3] at this; exact this
    · rw [nearB_comm]
      have := (h2 (t % (k + 1) - 1) (t / (k + 1)) (by omega) a2).1 (by omega)
      rwa [show t % (k + 1) - 1 + 1 = t % (k + 1) by omega] at this
    · rw [nearB_comm]
      have := (h2 (t % (k + 1)) (t / (k + 1) - 1) a1 (by omega)).2 (by omega)
      rwa [show t / (k + 1) - 1 + 1 = t / (k + 1) by omega] at this
end Go.Proofs.Ytkdkdejgajcneaa
namespace Go.Proofs.Ytkdkdejgajcneaa
open Go Go.RowKit
set_option linter.unusedVariables false
theorem own_form_pos {w : World} {base : Nat} {e : TypeId} {s : Nat} {v : Value} {n : Nat} {xs : List Value} (h : w.ownsRow base e s v n xs) (hn : 0 < n) : ∃ g cap, v = .slice (some ⟨g, 0, none⟩) n cap := by
  rcases h.2 with ⟨rfl, h0⟩ | ⟨g, cap, cur, rfl, _⟩
  · omega
  · exact ⟨g, cap, rfl⟩
theorem own_form_any {w : World} {base : Nat} {e : TypeId} {s : Nat} {v : Value} {n : Nat} {xs : List Value} (h : w.ownsRow base e s v n xs) : ∃ a cap, v = .slice a n cap := by
  rcases h.2 with ⟨rfl, rfl⟩ | ⟨g, cap, cur, rfl, _⟩
  · exact ⟨_, _, rfl⟩
  · exact ⟨_, _, rfl⟩
set_option maxRecDepth 100000 in
set_option maxHeartbeats 16000000 in
theorem impl_fine_w (c : CamD) (p : PatD) (k : Nat) (hk1 : 1 ≤ k) (hk8 : k ≤ 8) (most : Int) (PT : Nat → Nat → VecD) (OK : Nat → Nat → Bool) (GD : Nat → Bool) (R : Bool) (HF0 : FineF k most PT OK GD R)
    (hpt : ∀ i j, i ≤ k → j ≤ k → ∃ ex ey ez, PtC 73 53 c.val p.val (i : Int) (j : Int) (k : Int) 0 0 ex ey ez (PT i j).f0 (PT i j).f1 (PT i j).f2 (OK i j)) (hbd : ∀ i j, VBd (PT i j)) (w : World) :
    Calls Try.prog 65 #[c.val, p.val, .int .i64 (k : Int), .int .i64 most] w fun e w' => e = .returned (.bool R) ∧ Below w.heap.size w w' := by
  have HF := Lib.hid HF0
  have HPT := Lib.hid hpt
  have HNR := Lib.hid (fun i j i' j' W => impl_near (PT i j) (PT i' j') most (hbd i j) (hbd i' j') W)
  obtain ⟨i0, hi, hz0, hz1, hz2⟩ := info_parts info_VecC
  have qk : IntKind.i64.wrap ((k : Int) + 1) = (k : Int) + 1 := IntWalk.i64_in _ (by omega)
  have hS81 : (k + 1) * (k + 1) ≤ 81 := Nat.mul_le_mul (show k + 1 ≤ 9 by omega) (show k + 1 ≤ 9 by omega)
  obtain ⟨S, hS⟩ : ∃ S, S = (k + 1) * (k + 1) := ⟨_, rfl⟩
  rw [← hS] at hS81
  have qs : IntKind.i64.wrap (((k : Int) + 1) * ((k : Int) + 1)) = (S : Int) := by
    have e : (((k : Int) + 1) * ((k : Int) + 1)) = (S : Int) := by rw [hS]; simp
    rw [e]; exact IntWalk.i64_in _ (by omega)
  have HSL := Lib.hid (fun i j (h1 : i ≤ k) (h2 : j ≤ k) => (show j * (k + 1) + i < S by rw [hS]; exact spot_lt h1 h2))
  have HSE := Lib.hid hS
  clear HF0 hpt hbd hS
  obtain ⟨CC, hCC⟩ : ∃ CC : Nat → List Value, CC = fun s => (PT (s % (k + 1)) (s / (k + 1))).cells := ⟨_, rfl⟩
  have HCL := Lib.hid (show ∀ n, ∀ i, i < n → (CC i).length = 3 from fun n i _ => by rw [hCC]; rfl)
  have HCA := Lib.hid (show ∀ i j, i ≤ k → CC (j * (k + 1) + i) = (PT i j).cells from fun i j h => by rw [hCC]; show (PT _ _).cells = _; rw [(spot h).1, (spot h).2])
  clear hCC
  obtain ⟨BW, hBW⟩ : ∃ BW, BW = (w.alloc (.cells ⟨c.cells⟩ 24)).alloc (.cells ⟨p.cells⟩ 30) := ⟨_, rfl⟩
  have HBX := Lib.hid (show CPBox BW w.heap.size c p by rw [hBW]; exact CPBox.new w c p)
  have HB0 := Lib.hid (show Below w.heap.size w BW by rw [hBW]; exact (by repeat (first | exact Below.refl _ _ | refine Below.drew ?_ | refine Below.alloc ?_ (by first | exact Nat.le_refl _ | (simp; done) | (simp; omega) | omega) _ | refine Below.more ?_ (by first | exact Nat.le_refl _ | (simp; done) | (simp; omega) | omega) _ _ | refine Below.setCell ?_ (by first | exact Nat.le_refl _ | (simp; done) | (simp; omega) | omega) _ | assumption)))
  have hsz : w.heap.size + 1 < BW.heap.size := by rw [hBW]; simp
  have hsz0 : w.heap.size < BW.heap.size := by omega
  have HB1 := Lib.hid (show Below BW.heap.size BW (BW.alloc (.cells #[] 27)) from (by repeat (first | exact Below.refl _ _ | refine Below.drew ?_ | refine Below.alloc ?_ (by first | exact Nat.le_refl _ | (simp; done) | (simp; omega) | omega) _ | refine Below.more ?_ (by first | exact Nat.le_refl _ | (simp; done) | (simp; omega) | omega) _ _ | refine Below.setCell ?_ (by first | exact Nat.le_refl _ | (simp; done) | (simp; omega) | omega) _ | assumption)))
  have HB2 := Lib.hid (show (BW.alloc (.cells #[] 27)).ownsRow BW.heap.size 27 3 (.slice (some ⟨w.heap.size + 1 + 1, 0, none⟩) 0 0) 0 [] by
    have := World.ownsRow_made (e := 27) (size := 3) (base := BW.heap.size) BW #[] 0 (by simp) (by decide) (by simp)
    rwa [show BW.heap.size = w.heap.size + 1 + 1 by rw [hBW]; simp] at this ⊢)
  have HW := Lib.hid hBW
  clear hBW
  go_enter Try.func65, Try.ntmps65
  go_wp2
  go_step3
  go_wp2
  go_step3
  go_wp2
  go_loopw [10, 11] (fun out i wr => ∃ j : Nat, j ≤ k + 1 ∧ i = .int .i64 j ∧ Below BW.heap.size BW wr ∧ wr.ownsRow BW.heap.size 27 3 out (j * (k + 1)) (flat 3 (j * (k + 1)) CC) ∧ ∀ t, t < j * (k + 1) → GD t = true) (fun _ i _ => k + 1 - (intOf i).toNat)
  case atStart =>
    have hW := HW.out
    refine ⟨0, by omega, rfl, ?_, ?_, fun t ht => by simp at ht⟩
    · have := HB1.out; rw [hW] at this ⊢; exact this
    · rw [Nat.zero_mul, flat_zero]; have := HB2.out; rw [hW] at this ⊢; exact this
  case round =>
    obtain ⟨j, hj, rfl, hbel, hown, hgd⟩ := hrel
    have HOWN := Lib.hid hown
    have HGD := Lib.hid hgd
    have HBEL := Lib.hid hbel
    clear hown hgd hbel
    by_cases hltj : j ≤ k
    · have hltj1 : (j : Int) ≤ (k : Int) := by omega
      go_wp2
      go_loopw [10, 12] (fun out i wr => ∃ i' : Nat, i' ≤ k + 1 ∧ i = .int .i64 i' ∧ Below BW.heap.size BW wr ∧ wr.ownsRow BW.heap.size 27 3 out (j * (k + 1) + i') (flat 3 (j * (k + 1) + i') CC) ∧ ∀ t, t < j * (k + 1) + i' → GD t = true) (fun _ i _ => k + 1 - (intOf i).toNat)
      case atStart => exact ⟨0, by omega, rfl, HBEL.out, HOWN.out, HGD.out⟩
      case round =>
        clear HBEL HOWN HGD
        obtain ⟨i, hi', rfl, hbel, hown, hgd⟩ := hrel
        have hbx := HBX.out.kept hbel
        have hl1 : w.heap.size + 1 < wr.heap.size := by have := hbel.size; omega
        have hl0 : w.heap.size < wr.heap.size := by omega
        obtain ⟨oa, oc, rfl⟩ := own_form_any hown
        have HOWN := Lib.hid hown
        have HGD := Lib.hid hgd
        have HBEL := Lib.hid hbel
        clear hown hgd hbel
        by_cases hlti : i ≤ k
        · have hlti1 : (i : Int) ≤ (k : Int) := by omega
          have c0 : wr.cell? ⟨w.heap.size, 0, none⟩ = some (.int .i64 c.W) := hbx.cc 0
          have c1 : wr.cell? ⟨w.heap.size, 1, none⟩ = some (.int .i64 c.H) := hbx.cc 1
          have c2 : wr.cell? ⟨w.heap.size, 2, none⟩ = some (.int .i64 c.Z) := hbx.cc 2
          have c3 : wr.cell? ⟨w.heap.size, 3, none⟩ = some (.int .i64 c.N) := hbx.cc 3
          have c4 : wr.cell? ⟨w.heap.size, 4, none⟩ = some (.bool c.D) := hbx.cc 4
          have c5 : wr.cell? ⟨w.heap.size, 5, none⟩ = some (.int .i64 c.L) := hbx.cc 5
          have c6 : wr.cell? ⟨w.heap.size, 6, none⟩ = some (.int .i64 c.F) := hbx.cc 6
          have d0 : wr.cell? ⟨w.heap.size + 1, 0, none⟩ = some (.int .i64 p.t0) := hbx.cp 0
          have d1 : wr.cell? ⟨w.heap.size + 1, 1, none⟩ = some (.int .i64 p.t1) := hbx.cp 1
          have d2 : wr.cell? ⟨w.heap.size + 1, 2, none⟩ = some (.int .i64 p.t2) := hbx.cp 2
          have d3 : wr.cell? ⟨w.heap.size + 1, 3, none⟩ = some (.int .i64 p.t3) := hbx.cp 3
          have d4 : wr.cell? ⟨w.heap.size + 1, 4, none⟩ = some (.int .i64 p.t4) := hbx.cp 4
          have d5 : wr.cell? ⟨w.heap.size + 1, 5, none⟩ = some (.int .i64 p.t5) := hbx.cp 5
          have d6 : wr.cell? ⟨w.heap.size + 1, 6, none⟩ = some (.int .i64 p.t6) := hbx.cp 6
          have d7 : wr.cell? ⟨w.heap.size + 1, 7, none⟩ = some (.int .i64 p.t7) := hbx.cp 7
          have d8 : wr.cell? ⟨w.heap.size + 1, 8, none⟩ = some (.int .i64 p.t8) := hbx.cp 8
          have d9 : wr.cell? ⟨w.heap.size + 1, 9, none⟩ = some (.int .i64 p.t9) := hbx.cp 9
          have d10 : wr.cell? ⟨w.heap.size + 1, 10, none⟩ = some (.int .i64 p.t10) := hbx.cp 10
          have d11 : wr.cell? ⟨w.heap.size + 1, 11, none⟩ = some (.int .i64 p.t11) := hbx.cp 11
          clear hbx
          obtain ⟨ex, ey, ez, HPt⟩ := HPT.out i j hlti hltj
          have HP := Lib.hid HPt
          clear HPt
          have htS := HSL.out i j hlti hltj
          have htNE : (((j * (k + 1) + i : Nat) : Int) == (S : Int)) = false := by
            generalize j * (k + 1) + i = t' at *
            simp; omega
          have HNS := Lib.hid (show flat 3 (j * (k + 1) + (i + 1)) CC = flat 3 (j * (k + 1) + i) CC ++ (PT i j).cells from by rw [← Nat.add_assoc, flat_succ, HCA.out i j hlti])
          have HN0 := Lib.hid (HF.out.b0 i j hlti hltj)
          have HN1 := Lib.hid (HF.out.b1 i j hlti hltj)
          have HN2 := Lib.hid (HF.out.b2 i j hlti hltj)
          have HGO := Lib.hid (HF.out.good i j hlti)
          -- the row's older points
          have HOL := Lib.hid (show 0 < i → CC (j * (k + 1) + i - 1) = (PT (i - 1) j).cells from fun h => by rw [show j * (k + 1) + i - 1 = j * (k + 1) + (i - 1) by omega, HCA.out (i - 1) j (by omega)])
          have HOU := Lib.hid (show 0 < j → CC (j * (k + 1) + i - (k + 1)) = (PT i (j - 1)).cells from fun h => by
            have e : j * (k + 1) + i - (k + 1) = (j - 1) * (k + 1) + i := by
              obtain ⟨j', rfl⟩ : ∃ j', j = j' + 1 := ⟨j - 1, by omega⟩
              rw [Nat.add_mul, Nat.one_mul, Nat.add_sub_cancel]; omega
            rw [e, HCA.out i (j - 1) hlti])
          have hjk : 0 < j → k + 1 ≤ j * (k + 1) := fun h => by have := Nat.mul_le_mul_right (k + 1) (show 1 ≤ j from h); omega
          have HNRl := Lib.hid (HNR.out i j (i - 1) j)
          have HNRu := Lib.hid (HNR.out i j i (j - 1))
          have HGN := Lib.hid (show GD (j * (k + 1) + i) = true → ∀ u, u < j * (k + 1) + (i + 1) → GD u = true from fun h u hu => by
            by_cases he : u = j * (k + 1) + i
            · rw [he]; exact h
            · exact HGD.out u (by omega))
          have HCA2 := Lib.hid (HCL.out (j * (k + 1) + i))
          generalize ht : j * (k + 1) + i = t at *
          have HT := Lib.hid ht
          generalize PT i j = P0 at *
          generalize PT (i - 1) j = Pl at *
          generalize PT i (j - 1) = Pu at *
          generalize OK i j = ok at *
          go_wp2
          refine region_box0 10 27 [.int .i64 0, .int .i64 0, .int .i64 0] [.int .i64 P0.f0, .int .i64 P0.f1, .int .i64 P0.f2] (by kernel_rfl) (by kernel_rfl) ?_
          simp only [List.take_succ_cons, List.take_zero, List.drop_succ_cons, List.drop_zero]
          repeat (refine headS_step (fun K hK => ?_); go_simp; refine hK _ ?_; clear hK K)
          (refine headS_step (fun K hK => ?_); go_simp; refine ⟨_, fun zt => calls_stays (HP.out.ev _), hK _ ?_⟩; clear hK K)
          repeat (refine headS_step (fun K hK => ?_); go_simp; refine hK _ ?_; clear hK K)
          (refine headS_step (fun K hK => ?_); go_simp; refine ⟨_, fun zt => calls_stays (HP.out.pr _), hK _ ?_⟩; clear hK K)
          repeat (refine headS_step (fun K hK => ?_); go_simp; refine hK _ ?_; clear hK K)
          refine headS_nil ?_
          refine tail_box (by go_simp) (fun X d => by go_simp) (fun b => by go_simp) (fun b w hb => by go_simp) (fun b => ?_)
          refine tail_quiet (v := .bool ok) (by go_simp) (fun w => by go_simp) ?_
          refine tail_done (fun X1 X2 d1 hb => ?_)
          subst hb
          simp only [Act.put, List.setIfInBounds_toArray, List.set_cons_zero, List.set_cons_succ]
          have hWx := Lib.hid (show Below wr.heap.size wr (more ((more wr X1 0).alloc (.cells ⟨[.int .i64 P0.f0, .int .i64 P0.f1, .int .i64 P0.f2]⟩ 27)) X2 d1) from (by repeat (first | exact Below.refl _ _ | refine Below.drew ?_ | refine Below.alloc ?_ (by first | exact Nat.le_refl _ | (simp; done) | (simp; omega) | omega) _ | refine Below.more ?_ (by first | exact Nat.le_refl _ | (simp; done) | (simp; omega) | omega) _ _ | refine Below.setCell ?_ (by first | exact Nat.le_refl _ | (simp; done) | (simp; omega) | omega) _ | assumption)))
          have hgx := Lib.hid (show (more ((more wr X1 0).alloc (.cells ⟨[.int .i64 P0.f0, .int .i64 P0.f1, .int .i64 P0.f2]⟩ 27)) X2 d1).heap[wr.heap.size + X1.size]? = some (.cells ⟨[.int .i64 P0.f0, .int .i64 P0.f1, .int .i64 P0.f2]⟩ 27 (0, 0)) by rw [heap_more _ (by simp)]; exact heap_at_new (by simp))
          generalize more ((more wr X1 0).alloc (.cells ⟨[.int .i64 P0.f0, .int .i64 P0.f1, .int .i64 P0.f2]⟩ 27)) X2 d1 = Wx at *
          generalize wr.heap.size + X1.size = B at *
          have HOX := Lib.hid (own_kept HOWN.out hWx.out)
          have HBX2 := Lib.hid (HBEL.out.trans (hWx.out.mono HBEL.out.size))
          have g0 : Wx.cell? ⟨B, 0, none⟩ = some (.int .i64 P0.f0) := by rw [cell_of_row Wx _ 0 _ _ (0, 0) hgx.out]; rfl
          have g1 : Wx.cell? ⟨B, 1, none⟩ = some (.int .i64 P0.f1) := by rw [cell_of_row Wx _ 1 _ _ (0, 0) hgx.out]; rfl
          have g2 : Wx.cell? ⟨B, 2, none⟩ = some (.int .i64 P0.f2) := by rw [cell_of_row Wx _ 2 _ _ (0, 0) hgx.out]; rfl
          have hBl : B < Wx.heap.size := (Array.getElem?_eq_some_iff.1 hgx.out).1
          have hBW : BW.heap.size ≤ Wx.heap.size := HBX2.out.size
          have hwB : w.heap.size ≤ BW.heap.size := by omega
          clear c0 c1 c2 c3 c4 c5 c6 d0 d1 d2 d3 d4 d5 d6 d7 d8 d9 d10 d11 hl1 hl0
          have hga : 0 < t → ∃ g, oa = some ⟨g, 0, none⟩ ∧ g < Wx.heap.size := fun h => by
            obtain ⟨g, cap, e⟩ := own_form_pos HOX.out h
            simp only [Value.slice.injEq] at e
            exact ⟨g, e.1, (HOX.out.lt g (by rw [e.1]; rfl)).2⟩
          cases ok
          · go_wp2
            (try rw [Exit.noGoto_ret])
            go_ret
            exact ⟨by rw [HN0.out (by first | rfl | trivial)]; rfl, HB0.out.trans (HBX2.out.mono hwB)⟩
          · clear HN0
            have HCE := Lib.hid (show ∀ g cap, (Value.slice oa t oc = .slice (some ⟨g, 0, none⟩) t cap) → ∀ s x, s < t → CC s = VecD.cells x → Wx.cell? ⟨g, s * 3, none⟩ = some (.int .i64 x.f0) ∧ Wx.cell? ⟨g, s * 3 + 1, none⟩ = some (.int .i64 x.f1) ∧ Wx.cell? ⟨g, s * 3 + 2, none⟩ = some (.int .i64 x.f2) from fun g cap e s x hs hx => by
              have h := HOX.out
              rw [e] at h
              have hg := flat_get (HCL.out t) s hs
              rw [hx] at hg
              exact ⟨(h.cellAt (s * 3) (by omega)).trans (hg 0 (by omega)), (h.cellAt (s * 3 + 1) (by omega)).trans (hg 1 (by omega)), (h.cellAt (s * 3 + 2) (by omega)).trans (hg 2 (by omega))⟩)
            by_cases hi0 : i = 0
            · have hii : ¬ (0 : Int) < (i : Int) := by omega
              have hin : ¬ 0 < i := by omega
              clear hi0
              by_cases hj0 : j = 0
              · have hjj : ¬ (0 : Int) < (j : Int) := by omega
                have hjn : ¬ 0 < j := by omega
                clear hj0
                go_wp2
                (first | refine region_q2 (by kernel_rfl) (by kernel_rfl) ?_ | refine region_q (by kernel_rfl) (by kernel_rfl) ?_)
                repeat (first | go_big_quiet_skip | (go_big_quiet_want; go_simp; go_big_quiet_on))
                (refine wpQuiet_nil ?_; intro X nX)
                go_wp2_with (at_builtin; go_loud (refine wpList_append_vec rfl _ _ rfl BW.heap.size _ t _ rfl (own_kept HOX.out (by repeat (first | exact Below.refl _ _ | refine Below.drew ?_ | refine Below.alloc ?_ (by first | exact Nat.le_refl _ | (simp; done) | (simp; omega) | omega) _ | refine Below.more ?_ (by first | exact Nat.le_refl _ | (simp; done) | (simp; omega) | omega) _ _ | refine Below.setCell ?_ (by first | exact Nat.le_refl _ | (simp; done) | (simp; omega) | omega) _ | assumption))) _ P0 rfl ?b3 (by omega) ?b4 ?_))
                case b3 => exact heap_at_new (by first | rfl | (simp; done) | (simp; omega))
                case b4 => first | omega | (simp; omega)
                intro v' w' hp' hb'
                have HP' := Lib.hid hp'
                have HB' := Lib.hid (Below.trans (Below.trans HBX2.out (Below.mono (show Below Wx.heap.size Wx _ from (by repeat (first | exact Below.refl _ _ | refine Below.drew ?_ | refine Below.alloc ?_ (by first | exact Nat.le_refl _ | (simp; done) | (simp; omega) | omega) _ | refine Below.more ?_ (by first | exact Nat.le_refl _ | (simp; done) | (simp; omega) | omega) _ _ | refine Below.setCell ?_ (by first | exact Nat.le_refl _ | (simp; done) | (simp; omega) | omega) _ | assumption))) hBW)) hb')
                have HGD2 := Lib.hid (HGN.out (HGO.out (by first | rfl | trivial) (fun h => absurd h (by omega)) (fun h => absurd h (by omega))))
                clear hp' hb'
                go_wp2
                go_roundw
                case rel => exact ⟨i + 1, by omega, by go_num, HB'.out, by rw [HNS.out, show j * (k + 1) + (i + 1) = t + 1 by have := HT.out; omega]; exact HP'.out, HGD2.out⟩
                case measure => simp [intOf]; omega
              · have hjj : (0 : Int) < (j : Int) := by omega
                have hjn : 0 < j := by omega
                obtain ⟨gU, hoaU, hgU⟩ := hga (by have := HT.out; first | omega | (have := hjk (by omega); omega))
                cases hoaU
                obtain ⟨sU, hsU⟩ : ∃ s, s = t - (k + 1) := ⟨_, rfl⟩
                have hsUt : sU < t := by have := HT.out; first | omega | (have := hjk (by omega); omega)
                have qmU : IntKind.i64.wrap ((t : Int) - ((k : Int) + 1)) = (sU : Int) := by
                  have e : (t : Int) - ((k : Int) + 1) = (sU : Int) := by have := HT.out; first | omega | (have := hjk (by omega); omega)
                  rw [e]; exact IntWalk.i64_in _ (by omega)
                have hsUi : (sU : Int) < (t : Int) := by omega
                have hsU0 : (0 : Int) ≤ (sU : Int) := by omega
                obtain ⟨pU0, pU1, pU2⟩ := HCE.out _ oc rfl sU Pu hsUt (by rw [hsU]; exact HOU.out (by omega))
                clear hsU
                cases hnu : nearB P0 Pu most
                · rw [hnu] at HNRu
                  go_wp2
                  (first | refine region_q2 (by kernel_rfl) (by kernel_rfl) ?_ | refine region_q (by kernel_rfl) (by kernel_rfl) ?_)
                  repeat (first | go_big_quiet_skip | (go_big_quiet_want; go_simp; go_big_quiet_on))
                  (refine wpQuiet_step (fun K hK => ?_); go_simp; refine ⟨_, fun zt => ext_below (HNRu.out _), hK _ ?_⟩; clear hK K)
                  repeat (first | go_big_quiet_skip | (go_big_quiet_want; go_simp; go_big_quiet_on))
                  (refine wpQuiet_nil ?_; intro X nX)
                  go_wp2
                  (try rw [Exit.noGoto_ret])
                  go_ret
                  exact ⟨by rw [HN2.out (by omega) (by first | rfl | trivial)]; rfl, HB0.out.trans (Below.mono (HBX2.out.trans (Below.mono (show Below Wx.heap.size Wx _ from (by repeat (first | exact Below.refl _ _ | refine Below.drew ?_ | refine Below.alloc ?_ (by first | exact Nat.le_refl _ | (simp; done) | (simp; omega) | omega) _ | refine Below.more ?_ (by first | exact Nat.le_refl _ | (simp; done) | (simp; omega) | omega) _ _ | refine Below.setCell ?_ (by first | exact Nat.le_refl _ | (simp; done) | (simp; omega) | omega) _ | assumption))) hBW)) hwB)⟩
                · rw [hnu] at HNRu
                  go_wp2
                  (first | refine region_q2 (by kernel_rfl) (by kernel_rfl) ?_ | refine region_q (by kernel_rfl) (by kernel_rfl) ?_)
                  repeat (first | go_big_quiet_skip | (go_big_quiet_want; go_simp; go_big_quiet_on))
                  (refine wpQuiet_step (fun K hK => ?_); go_simp; refine ⟨_, fun zt => ext_below (HNRu.out _), hK _ ?_⟩; clear hK K)
                  repeat (first | go_big_quiet_skip | (go_big_quiet_want; go_simp; go_big_quiet_on))
                  (refine wpQuiet_nil ?_; intro X nX)
                  go_wp2_with (at_builtin; go_loud (refine wpList_append_vec rfl _ _ rfl BW.heap.size _ t _ rfl (own_kept HOX.out (by repeat (first | exact Below.refl _ _ | refine Below.drew ?_ | refine Below.alloc ?_ (by first | exact Nat.le_refl _ | (simp; done) | (simp; omega) | omega) _ | refine Below.more ?_ (by first | exact Nat.le_refl _ | (simp; done) | (simp; omega) | omega) _ _ | refine Below.setCell ?_ (by first | exact Nat.le_refl _ | (simp; done) | (simp; omega) | omega) _ | assumption))) _ P0 rfl ?b3 (by omega) ?b4 ?_))
                  case b3 => exact heap_at_new (by first | rfl | (simp; done) | (simp; omega))
                  case b4 => first | omega | (simp; omega)
                  intro v' w' hp' hb'
                  have HP' := Lib.hid hp'
                  have HB' := Lib.hid (Below.trans (Below.trans HBX2.out (Below.mono (show Below Wx.heap.size Wx _ from (by repeat (first | exact Below.refl _ _ | refine Below.drew ?_ | refine Below.alloc ?_ (by first | exact Nat.le_refl _ | (simp; done) | (simp; omega) | omega) _ | refine Below.more ?_ (by first | exact Nat.le_refl _ | (simp; done) | (simp; omega) | omega) _ _ | refine Below.setCell ?_ (by first | exact Nat.le_refl _ | (simp; done) | (simp; omega) | omega) _ | assumption))) hBW)) hb')
                  have HGD2 := Lib.hid (HGN.out (HGO.out (by first | rfl | trivial) (fun h => absurd h (by omega)) (fun _ => hnu)))
                  clear hp' hb'
                  go_wp2
                  go_roundw
                  case rel => exact ⟨i + 1, by omega, by go_num, HB'.out, by rw [HNS.out, show j * (k + 1) + (i + 1) = t + 1 by have := HT.out; omega]; exact HP'.out, HGD2.out⟩
                  case measure => simp [intOf]; omega
            · have hii : (0 : Int) < (i : Int) := by omega
              have hin : 0 < i := by omega
              obtain ⟨gL, hoaL, hgL⟩ := hga (by have := HT.out; first | omega | (have := hjk (by omega); omega))
              cases hoaL
              obtain ⟨sL, hsL⟩ : ∃ s, s = t - 1 := ⟨_, rfl⟩
              have hsLt : sL < t := by have := HT.out; first | omega | (have := hjk (by omega); omega)
              have qmL : IntKind.i64.wrap ((t : Int) - 1) = (sL : Int) := by
                have e : (t : Int) - 1 = (sL : Int) := by have := HT.out; first | omega | (have := hjk (by omega); omega)
                rw [e]; exact IntWalk.i64_in _ (by omega)
              have hsLi : (sL : Int) < (t : Int) := by omega
              have hsL0 : (0 : Int) ≤ (sL : Int) := by omega
              obtain ⟨pL0, pL1, pL2⟩ := HCE.out _ oc rfl sL Pl hsLt (by rw [hsL]; exact HOL.out (by omega))
              clear hsL
              cases hnl : nearB P0 Pl most
              · rw [hnl] at HNRl
                go_wp2
                (first | refine region_q2 (by kernel_rfl) (by kernel_rfl) ?_ | refine region_q (by kernel_rfl) (by kernel_rfl) ?_)
                repeat (first | go_big_quiet_skip | (go_big_quiet_want; go_simp; go_big_quiet_on))
                (refine wpQuiet_step (fun K hK => ?_); go_simp; refine ⟨_, fun zt => ext_below (HNRl.out _), hK _ ?_⟩; clear hK K)
                repeat (first | go_big_quiet_skip | (go_big_quiet_want; go_simp; go_big_quiet_on))
                (refine wpQuiet_nil ?_; intro X nX)
                go_wp2
                (try rw [Exit.noGoto_ret])
                go_ret
                exact ⟨by rw [HN1.out (by omega) (by first | rfl | trivial)]; rfl, HB0.out.trans (Below.mono (HBX2.out.trans (Below.mono (show Below Wx.heap.size Wx _ from (by repeat (first | exact Below.refl _ _ | refine Below.drew ?_ | refine Below.alloc ?_ (by first | exact Nat.le_refl _ | (simp; done) | (simp; omega) | omega) _ | refine Below.more ?_ (by first | exact Nat.le_refl _ | (simp; done) | (simp; omega) | omega) _ _ | refine Below.setCell ?_ (by first | exact Nat.le_refl _ | (simp; done) | (simp; omega) | omega) _ | assumption))) hBW)) hwB)⟩
              · rw [hnl] at HNRl
                by_cases hj0 : j = 0
                · have hjj : ¬ (0 : Int) < (j : Int) := by omega
                  have hjn : ¬ 0 < j := by omega
                  clear hj0
                  go_wp2
                  (first | refine region_q2 (by kernel_rfl) (by kernel_rfl) ?_ | refine region_q (by kernel_rfl) (by kernel_rfl) ?_)
                  repeat (first | go_big_quiet_skip | (go_big_quiet_want; go_simp; go_big_quiet_on))
                  (refine wpQuiet_step (fun K hK => ?_); go_simp; refine ⟨_, fun zt => ext_below (HNRl.out _), hK _ ?_⟩; clear hK K)
                  repeat (first | go_big_quiet_skip | (go_big_quiet_want; go_simp; go_big_quiet_on))
                  (refine wpQuiet_nil ?_; intro X nX)
                  go_wp2_with (at_builtin; go_loud (refine wpList_append_vec rfl _ _ rfl BW.heap.size _ t _ rfl (own_kept HOX.out (by repeat (first | exact Below.refl _ _ | refine Below.drew ?_ | refine Below.alloc ?_ (by first | exact Nat.le_refl _ | (simp; done) | (simp; omega) | omega) _ | refine Below.more ?_ (by first | exact Nat.le_refl _ | (simp; done) | (simp; omega) | omega) _ _ | refine Below.setCell ?_ (by first | exact Nat.le_refl _ | (simp; done) | (simp; omega) | omega) _ | assumption))) _ P0 rfl ?b3 (by omega) ?b4 ?_))
                  case b3 => exact heap_at_new (by first | rfl | (simp; done) | (simp; omega))
                  case b4 => first | omega | (simp; omega)
                  intro v' w' hp' hb'
                  have HP' := Lib.hid hp'
                  have HB' := Lib.hid (Below.trans (Below.trans HBX2.out (Below.mono (show Below Wx.heap.size Wx _ from (by repeat (first | exact Below.refl _ _ | refine Below.drew ?_ | refine Below.alloc ?_ (by first | exact Nat.le_refl _ | (simp; done) | (simp; omega) | omega) _ | refine Below.more ?_ (by first | exact Nat.le_refl _ | (simp; done) | (simp; omega) | omega) _ _ | refine Below.setCell ?_ (by first | exact Nat.le_refl _ | (simp; done) | (simp; omega) | omega) _ | assumption))) hBW)) hb')
                  have HGD2 := Lib.hid (HGN.out (HGO.out (by first | rfl | trivial) (fun _ => hnl) (fun h => absurd h (by omega))))
                  clear hp' hb'
                  go_wp2
                  go_roundw
                  case rel => exact ⟨i + 1, by omega, by go_num, HB'.out, by rw [HNS.out, show j * (k + 1) + (i + 1) = t + 1 by have := HT.out; omega]; exact HP'.out, HGD2.out⟩
                  case measure => simp [intOf]; omega
                · have hjj : (0 : Int) < (j : Int) := by omega
                  have hjn : 0 < j := by omega
                  obtain ⟨gU, hoaU, hgU⟩ := hga (by have := HT.out; first | omega | (have := hjk (by omega); omega))
                  cases hoaU
                  obtain ⟨sU, hsU⟩ : ∃ s, s = t - (k + 1) := ⟨_, rfl⟩
                  have hsUt : sU < t := by have := HT.out; first | omega | (have := hjk (by omega); omega)
                  have qmU : IntKind.i64.wrap ((t : Int) - ((k : Int) + 1)) = (sU : Int) := by
                    have e : (t : Int) - ((k : Int) + 1) = (sU : Int) := by have := HT.out; first | omega | (have := hjk (by omega); omega)
                    rw [e]; exact IntWalk.i64_in _ (by omega)
                  have hsUi : (sU : Int) < (t : Int) := by omega
                  have hsU0 : (0 : Int) ≤ (sU : Int) := by omega
                  obtain ⟨pU0, pU1, pU2⟩ := HCE.out _ oc rfl sU Pu hsUt (by rw [hsU]; exact HOU.out (by omega))
                  clear hsU
                  cases hnu : nearB P0 Pu most
                  · rw [hnu] at HNRu
                    go_wp2
                    (first | refine region_q2 (by kernel_rfl) (by kernel_rfl) ?_ | refine region_q (by kernel_rfl) (by kernel_rfl) ?_)
                    repeat (first | go_big_quiet_skip | (go_big_quiet_want; go_simp; go_big_quiet_on))
                    (refine wpQuiet_step (fun K hK => ?_); go_simp; refine ⟨_, fun zt => ext_below (HNRl.out _), hK _ ?_⟩; clear hK K)
                    repeat (first | go_big_quiet_skip | (go_big_quiet_want; go_simp; go_big_quiet_on))
                    (refine wpQuiet_step (fun K hK => ?_); go_simp; refine ⟨_, fun zt => ext_below (HNRu.out _), hK _ ?_⟩; clear hK K)
                    repeat (first | go_big_quiet_skip | (go_big_quiet_want; go_simp; go_big_quiet_on))
                    (refine wpQuiet_nil ?_; intro X nX)
                    go_wp2
                    (try rw [Exit.noGoto_ret])
                    go_ret
                    exact ⟨by rw [HN2.out (by omega) (by first | rfl | trivial)]; rfl, HB0.out.trans (Below.mono (HBX2.out.trans (Below.mono (show Below Wx.heap.size Wx _ from (by repeat (first | exact Below.refl _ _ | refine Below.drew ?_ | refine Below.alloc ?_ (by first | exact Nat.le_refl _ | (simp; done) | (simp; omega) | omega) _ | refine Below.more ?_ (by first | exact Nat.le_refl _ | (simp; done) | (simp; omega) | omega) _ _ | refine Below.setCell ?_ (by first | exact Nat.le_refl _ | (simp; done) | (simp; omega) | omega) _ | assumption))) hBW)) hwB)⟩
                  · rw [hnu] at HNRu
                    go_wp2
                    (first | refine region_q2 (by kernel_rfl) (by kernel_rfl) ?_ | refine region_q (by kernel_rfl) (by kernel_rfl) ?_)
                    repeat (first | go_big_quiet_skip | (go_big_quiet_want; go_simp; go_big_quiet_on))
                    (refine wpQuiet_step (fun K hK => ?_); go_simp; refine ⟨_, fun zt => ext_below (HNRl.out _), hK _ ?_⟩; clear hK K)
                    repeat (first | go_big_quiet_skip | (go_big_quiet_want; go_simp; go_big_quiet_on))
                    (refine wpQuiet_step (fun K hK => ?_); go_simp; refine ⟨_, fun zt => ext_below (HNRu.out _), hK _ ?_⟩; clear hK K)
                    repeat (first | go_big_quiet_skip | (go_big_quiet_want; go_simp; go_big_quiet_on))
                    (refine wpQuiet_nil ?_; intro X nX)
                    go_wp2_with (at_builtin; go_loud (refine wpList_append_vec rfl _ _ rfl BW.heap.size _ t _ rfl (own_kept HOX.out (by repeat (first | exact Below.refl _ _ | refine Below.drew ?_ | refine Below.alloc ?_ (by first | exact Nat.le_refl _ | (simp; done) | (simp; omega) | omega) _ | refine Below.more ?_ (by first | exact Nat.le_refl _ | (simp; done) | (simp; omega) | omega) _ _ | refine Below.setCell ?_ (by first | exact Nat.le_refl _ | (simp; done) | (simp; omega) | omega) _ | assumption))) _ P0 rfl ?b3 (by omega) ?b4 ?_))
                    case b3 => exact heap_at_new (by first | rfl | (simp; done) | (simp; omega))
                    case b4 => first | omega | (simp; omega)
                    intro v' w' hp' hb'
                    have HP' := Lib.hid hp'
                    have HB' := Lib.hid (Below.trans (Below.trans HBX2.out (Below.mono (show Below Wx.heap.size Wx _ from (by repeat (first | exact Below.refl _ _ | refine Below.drew ?_ | refine Below.alloc ?_ (by first | exact Nat.le_refl _ | (simp; done) | (simp; omega) | omega) _ | refine Below.more ?_ (by first | exact Nat.le_refl _ | (simp; done) | (simp; omega) | omega) _ _ | refine Below.setCell ?_ (by first | exact Nat.le_refl _ | (simp; done) | (simp; omega) | omega) _ | assumption))) hBW)) hb')
                    have HGD2 := Lib.hid (HGN.out (HGO.out (by first | rfl | trivial) (fun _ => hnl) (fun _ => hnu)))
                    clear hp' hb'
                    go_wp2
                    go_roundw
                    case rel => exact ⟨i + 1, by omega, by go_num, HB'.out, by rw [HNS.out, show j * (k + 1) + (i + 1) = t + 1 by have := HT.out; omega]; exact HP'.out, HGD2.out⟩
                    case measure => simp [intOf]; omega
        · obtain rfl : i = k + 1 := by omega
          have hnl : ¬ ((k + 1 : Nat) : Int) ≤ (k : Int) := by omega
          have he : (j + 1) * (k + 1) = j * (k + 1) + (k + 1) := by rw [Nat.add_mul, Nat.one_mul]
          go_wp2
          go_roundw
          case rel => exact ⟨j + 1, by omega, by go_num, HBEL.out, by rw [he]; exact HOWN.out, by rw [he]; exact HGD.out⟩
          case measure => simp [intOf]; omega
    · obtain rfl : j = k + 1 := by omega
      have hnl : ¬ ((k + 1 : Nat) : Int) ≤ (k : Int) := by omega
      obtain ⟨oa, oc, rfl⟩ := own_form_any HOWN.out
      rw [← HSE.out] at HGD
      have heq : (((k + 1) * (k + 1) : Nat) : Int) = (S : Int) := by rw [HSE.out]
      have hee : ((((k + 1) * (k + 1) : Nat) : Int) == (S : Int)) = true := by rw [heq]; simp
      have HYS := Lib.hid (HF.out.yes (fun u hu => HGD.out u (by rw [HSE.out]; exact hu)))
      generalize (k + 1) * (k + 1) = t at *
      go_wp2
      (try rw [Exit.noGoto_ret])
      go_ret
      exact ⟨by rw [HYS.out]; rfl, HB0.out.trans (HBEL.out.mono HB0.out.size)⟩
end Go.Proofs.Ytkdkdejgajcneaa
