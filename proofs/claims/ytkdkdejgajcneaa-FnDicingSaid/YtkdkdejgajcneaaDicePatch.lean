/- Contracts of DicePatch and of DiceSubPatch. -/
import Derived.Test.YtkdkdejgajcneaaDiceSub
namespace Go.Proofs.Ytkdkdejgajcneaa
open Go Go.RowKit Go.ChangeShapes
set_option linter.unusedVariables false
theorem impl_DiceSubPatch_c (c : CamD) (p : PatD) (U V N n lx ly : Int) (w : World) :
    Calls Try.prog 20 #[c.val, p.val, subV U V N, .int .i64 n, .int .i64 lx, .int .i64 ly] w (Gives w 12 (dsD c p U V N n lx ly).length (MicropolygonD.at (dsD c p U V N n lx ly))) := by
  cases h : dsIn U V N n
  · rw [show dsD c p U V N n lx ly = [] by simp [dsD, h]]
    exact impl_DiceSubPatch_no c p U V N n lx ly w h
  · rw [show dsD c p U V N n lx ly = gridD c p U V (dsK N n) n lx ly (dsK N n * dsK N n) by simp [dsD, h]]
    exact impl_DiceSubPatch_in c p U V N n lx ly w h
theorem dsD_len (c : CamD) (p : PatD) (U V N n lx ly : Int) : (dsD c p U V N n lx ly).length ≤ 1048576 := by
  unfold dsD
  split
  · next h =>
    have h8 := (dsF h).k8
    have h2 := gridD_len c p U V (dsK N n) n lx ly (dsK N n * dsK N n)
    have h3 := Nat.mul_le_mul h8 h8
    omega
  · simp
set_option maxRecDepth 100000 in
theorem impl_DicePatch_c (c : CamD) (p : PatD) (n lx ly : Int) (w : World) :
    Calls Try.prog 18 #[c.val, p.val, .int .i64 n, .int .i64 lx, .int .i64 ly] w (Gives w 12 (dsD c p 0 0 1 n lx ly).length (MicropolygonD.at (dsD c p 0 0 1 n lx ly))) := by
  go_enter Try.func18, Try.ntmps18
  go_wp2_with (go_at_call 20; refine (impl_DiceSubPatch_c c p 0 0 1 n lx ly _).mono ?_; rintro e w' ⟨a, cap, rfl, ho, hb⟩)
  go_ret
  exact ⟨a, cap, rfl, ho.wide (by simp; omega) (Nat.le_refl _), Below.trans (by repeat (first | exact Below.refl _ _ | refine Below.drew ?_ | refine Below.alloc ?_ (by first | exact Nat.le_refl _ | (simp; done) | (simp; omega) | omega) _ | refine Below.more ?_ (by first | exact Nat.le_refl _ | (simp; done) | (simp; omega) | omega) _ _ | refine Below.setCell ?_ (by first | exact Nat.le_refl _ | (simp; done) | (simp; omega) | omega) _ | assumption)) (hb.mono (by simp; omega))⟩
theorem dsD_one {c : CamD} {p : PatD} {n lx ly : Int} (h : inB n 1 8 = true) : dsD c p 0 0 1 n lx ly = gridD c p 0 0 n.toNat n lx ly (n.toNat * n.toNat) := by
  have e : dsIn 0 0 1 n = true := by simp [dsIn, subPOk, pow2B, inB, h]; simpa [inB] using h
  simp only [dsD, e, if_true, dsK, Int.ediv_one]
theorem dsD_one_no {c : CamD} {p : PatD} {n lx ly : Int} (h : inB n 1 8 = false) : dsD c p 0 0 1 n lx ly = [] := by
  have e : dsIn 0 0 1 n = false := by simp [dsIn, h]
  simp [dsD, e]
set_option maxRecDepth 100000 in
theorem spec_DicePatch_no (c : CamD) (p : PatD) (n lx ly : Int) (w : World) (o2 : inB n 1 8 = false) :
    Calls Try.prog 30 #[c.val, p.val, .int .i64 n, .int .i64 lx, .int .i64 ly] w (Gives w 12 0 (MicropolygonD.at [])) := by
  go_enter Try.func30, Try.ntmps30
  go_wp2_with (go_at_call 68; refine (l01In_c _ _ _ _).mono ?_; rw [o2]; rintro e w' ⟨rfl, rfl⟩)
  go_ret
  exact Gives.nil (by repeat (first | exact Below.refl _ _ | refine Below.drew ?_ | refine Below.alloc ?_ (by first | exact Nat.le_refl _ | (simp; done) | (simp; omega) | omega) _ | refine Below.more ?_ (by first | exact Nat.le_refl _ | (simp; done) | (simp; omega) | omega) _ _ | refine Below.setCell ?_ (by first | exact Nat.le_refl _ | (simp; done) | (simp; omega) | omega) _ | assumption))
set_option maxRecDepth 100000 in
set_option maxHeartbeats 8000000 in
theorem spec_DicePatch_in (c : CamD) (p : PatD) (n lx ly : Int) (k : Nat) (hk : n = (k : Int)) (k8 : k ≤ 8) (o2 : inB n 1 8 = true) (w : World) :
    Calls Try.prog 30 #[c.val, p.val, .int .i64 n, .int .i64 lx, .int .i64 ly] w (Gives w 12 (gridD c p 0 0 k n lx ly (k * k)).length (MicropolygonD.at (gridD c p 0 0 k n lx ly (k * k)))) := by
  subst hk
  have k1 : 1 ≤ k := by have := inB_true.1 o2; omega
  have HLEN := Lib.hid (fun t => gridD_len c p 0 0 k (k : Int) lx ly t)
  have HAT := Lib.hid (fun (u v : Nat) (hu : u < k) => (show gridD c p 0 0 k (k : Int) lx ly (v * k + (u + 1)) = gridD c p 0 0 k (k : Int) lx ly (v * k + u) ++ dcD c p (u : Int) (v : Int) (k : Int) lx ly by have := gridD_at c p 0 0 k (k : Int) lx ly (u := u) (v := v) hu; simpa using this))
  have hkk : k * k ≤ 64 := Nat.mul_le_mul k8 k8
  obtain ⟨BW, hBW⟩ : ∃ BW, BW = (w.alloc (.cells ⟨c.cells⟩ 24)).alloc (.cells ⟨p.cells⟩ 30) := ⟨_, rfl⟩
  have HBX := Lib.hid (show CPBox BW w.heap.size c p by rw [hBW]; exact CPBox.new w c p)
  have HB0 := Lib.hid (show Below w.heap.size w BW by rw [hBW]; exact (by repeat (first | exact Below.refl _ _ | refine Below.drew ?_ | refine Below.alloc ?_ (by first | exact Nat.le_refl _ | (simp; done) | (simp; omega) | omega) _ | refine Below.more ?_ (by first | exact Nat.le_refl _ | (simp; done) | (simp; omega) | omega) _ _ | refine Below.setCell ?_ (by first | exact Nat.le_refl _ | (simp; done) | (simp; omega) | omega) _ | assumption)))
  have hsz : w.heap.size + 1 < BW.heap.size := by rw [hBW]; simp
  have HB1 := Lib.hid (show Below BW.heap.size BW (BW.alloc (.cells #[] 45)) from (by repeat (first | exact Below.refl _ _ | refine Below.drew ?_ | refine Below.alloc ?_ (by first | exact Nat.le_refl _ | (simp; done) | (simp; omega) | omega) _ | refine Below.more ?_ (by first | exact Nat.le_refl _ | (simp; done) | (simp; omega) | omega) _ _ | refine Below.setCell ?_ (by first | exact Nat.le_refl _ | (simp; done) | (simp; omega) | omega) _ | assumption)))
  have HB2 := Lib.hid (show (BW.alloc (.cells #[] 45)).ownsRow BW.heap.size 45 12 (.slice (some ⟨w.heap.size + 1 + 1, 0, none⟩) 0 0) 0 [] by
    have := World.ownsRow_made (e := 45) (size := 12) (base := BW.heap.size) BW #[] 0 (by simp) (by decide) (by simp)
    rwa [show BW.heap.size = w.heap.size + 1 + 1 by rw [hBW]; simp] at this ⊢)
  have HW := Lib.hid hBW
  clear hBW
  go_enter Try.func30, Try.ntmps30
  go_wp2_with (go_at_call 68; refine (l01In_c _ _ _ _).mono ?_; rw [o2]; rintro e w' ⟨rfl, rfl⟩)
  go_loopw [11, 12] (fun out i wr => ∃ v : Nat, v ≤ k ∧ i = .int .i64 v ∧ Below BW.heap.size BW wr ∧ wr.ownsRow BW.heap.size 45 12 out (gridD c p 0 0 k (k : Int) lx ly (v * k)).length (micCells (gridD c p 0 0 k (k : Int) lx ly (v * k)))) (fun _ i _ => k - (intOf i).toNat)
  case atStart =>
    have hW := HW.out
    refine ⟨0, by omega, rfl, ?_, ?_⟩
    · have := HB1.out; rw [hW] at this ⊢; first | exact this | exact this.trans (Below.mono (by repeat (first | exact Below.refl _ _ | refine Below.drew ?_ | refine Below.alloc ?_ (by first | exact Nat.le_refl _ | (simp; done) | (simp; omega) | omega) _ | refine Below.more ?_ (by first | exact Nat.le_refl _ | (simp; done) | (simp; omega) | omega) _ _ | refine Below.setCell ?_ (by first | exact Nat.le_refl _ | (simp; done) | (simp; omega) | omega) _ | assumption)) (by simp))
    · rw [Nat.zero_mul]
      have h2 := HB2.out; rw [hW] at h2 ⊢
      simp only [gridD, List.range_zero, List.flatMap_nil, micCells, List.length_nil]
      first | exact h2 | exact own_kept h2 (by repeat (first | exact Below.refl _ _ | refine Below.drew ?_ | refine Below.alloc ?_ (by first | exact Nat.le_refl _ | (simp; done) | (simp; omega) | omega) _ | refine Below.more ?_ (by first | exact Nat.le_refl _ | (simp; done) | (simp; omega) | omega) _ _ | refine Below.setCell ?_ (by first | exact Nat.le_refl _ | (simp; done) | (simp; omega) | omega) _ | assumption))
  case round =>
    obtain ⟨v, hv, rfl, hbel, hown⟩ := hrel
    have HBEL := Lib.hid hbel
    have HOWN := Lib.hid hown
    clear hbel hown
    by_cases hlt : v < k
    · have hlt1 : (v : Int) < (k : Int) := by omega
      go_wp2
      go_loopw [11, 13] (fun out i wr => ∃ u : Nat, u ≤ k ∧ i = .int .i64 u ∧ Below BW.heap.size BW wr ∧ wr.ownsRow BW.heap.size 45 12 out (gridD c p 0 0 k (k : Int) lx ly (v * k + u)).length (micCells (gridD c p 0 0 k (k : Int) lx ly (v * k + u)))) (fun _ i _ => k - (intOf i).toNat)
      case atStart => exact ⟨0, by omega, rfl, HBEL.out, HOWN.out⟩
      case round =>
        obtain ⟨u, hu, rfl, hbel, hown⟩ := hrel
        have HBE2 := Lib.hid hbel
        have HOW2 := Lib.hid hown
        by_cases hlt2 : u < k
        · have hlt3 : (u : Int) < (k : Int) := by omega
          have hbx := HBX.out.kept hbel
          have hl1 : w.heap.size + 1 < wr.heap.size := by have := hbel.size; omega
          have hl0 : w.heap.size < wr.heap.size := by omega
          have c0 : wr.cell? ⟨w.heap.size, 0, none⟩ = some (.int .i64 c.W) := hbx.cc 0
          have c1 : wr.cell? ⟨w.heap.size, 1, none⟩ = some (.int .i64 c.H) := hbx.cc 1
          have c2 : wr.cell? ⟨w.heap.size, 2, none⟩ = some (.int .i64 c.Z) := hbx.cc 2
          have c3 : wr.cell? ⟨w.heap.size, 3, none⟩ = some (.int .i64 c.N) := hbx.cc 3
          have c4 : wr.cell? ⟨w.heap.size, 4, none⟩ = some (.bool c.D) := hbx.cc 4
          have c5 : wr.cell? ⟨w.heap.size, 5, none⟩ = some (.int .i64 c.L) := hbx.cc 5
          have c6 : wr.cell? ⟨w.heap.size, 6, none⟩ = some (.int .i64 c.F) := hbx.cc 6
          have d0 : wr.cell? ⟨w.heap.size + 1, 0, none⟩ = some (.int .i64 p.t0) := hbx.cp 0
          have d1 : wr.cell? ⟨w.heap.size + 1, 1, none⟩ = some (.int .i64 p.t1) := hbx.cp 1
          have d2 : wr.cell? ⟨w.heap.size + 1, 2, none⟩ = some (.int .i64 p.t2) := hbx.cp 2
          have d3 : wr.cell? ⟨w.heap.size + 1, 3, none⟩ = some (.int .i64 p.t3) := hbx.cp 3
          have d4 : wr.cell? ⟨w.heap.size + 1, 4, none⟩ = some (.int .i64 p.t4) := hbx.cp 4
          have d5 : wr.cell? ⟨w.heap.size + 1, 5, none⟩ = some (.int .i64 p.t5) := hbx.cp 5
          have d6 : wr.cell? ⟨w.heap.size + 1, 6, none⟩ = some (.int .i64 p.t6) := hbx.cp 6
          have d7 : wr.cell? ⟨w.heap.size + 1, 7, none⟩ = some (.int .i64 p.t7) := hbx.cp 7
          have d8 : wr.cell? ⟨w.heap.size + 1, 8, none⟩ = some (.int .i64 p.t8) := hbx.cp 8
          have d9 : wr.cell? ⟨w.heap.size + 1, 9, none⟩ = some (.int .i64 p.t9) := hbx.cp 9
          have d10 : wr.cell? ⟨w.heap.size + 1, 10, none⟩ = some (.int .i64 p.t10) := hbx.cp 10
          have d11 : wr.cell? ⟨w.heap.size + 1, 11, none⟩ = some (.int .i64 p.t11) := hbx.cp 11
          have HA := Lib.hid (HAT.out u v hlt2)
          have HL := Lib.hid (HLEN.out (v * k + u))
          have hvk : v * k + u ≤ 64 := by
            have := Nat.mul_le_mul_right k (show v + 1 ≤ k by omega)
            rw [Nat.add_mul, Nat.one_mul] at this
            omega
          have HC := Lib.hid (fun W => spec_DiceCell_q c p (u : Int) (v : Int) (k : Int) lx ly W)
          have HLL := Lib.hid (show (gridD c p 0 0 k (k : Int) lx ly (v * k + u)).length ≤ 1000 by have := HL.out; omega)
          clear hbx hbel hown HL
          generalize gridD c p 0 0 k (k : Int) lx ly (v * k + u) = L1 at *
          generalize dcD c p (u : Int) (v : Int) (k : Int) lx ly = l at *
          go_wp2_with (first | (go_at_call 25; refine (HC.out _).mono ?_; rintro e wq hq; obtain ⟨r, rfl, hr, hb⟩ := hq.r; have HR := Lib.hid hr; have HB := Lib.hid hb; clear hq hr hb) | (at_builtin; go_loud (refine wpList_append_cell rfl _ _ rfl BW.heap.size _ r L1 l rfl rfl (own_kept HOW2.out HB.out) HR.out HLL.out (Nat.le_trans HBE2.out.size HB.out.size) ?_)))
          intro v' w' hp' hb'
          have HP' := Lib.hid hp'
          have HB' := Lib.hid ((HBE2.out.trans (HB.out.mono HBE2.out.size)).trans hb')
          clear hp' hb'
          go_wp2
          go_roundw
          case rel => exact ⟨u + 1, by omega, by go_num, HB'.out, by rw [HA.out, List.length_append]; exact HP'.out⟩
          case measure => simp [intOf]; omega
        · obtain rfl : u = k := by omega
          clear hbel hown
          have he : (v + 1) * u = v * u + u := by rw [Nat.add_mul, Nat.one_mul]
          have hnl : ¬ (u : Int) < (u : Int) := by omega
          go_wp2
          go_roundw
          case rel => exact ⟨v + 1, by omega, by go_num, HBE2.out, by rw [he]; exact HOW2.out⟩
          case measure => simp [intOf]; omega
    · obtain rfl : v = k := by omega
      have hnl : ¬ (v : Int) < (v : Int) := by omega
      go_wp2
      go_ret
      have hle : w.heap.size ≤ BW.heap.size := HB0.out.size
      exact gives_of_mic (ownsRow_base HOWN.out hle) (HB0.out.trans (HBEL.out.mono hle))
theorem spec_DicePatch_c (c : CamD) (p : PatD) (n lx ly : Int) (w : World) :
    Calls Try.prog 30 #[c.val, p.val, .int .i64 n, .int .i64 lx, .int .i64 ly] w (Gives w 12 (dsD c p 0 0 1 n lx ly).length (MicropolygonD.at (dsD c p 0 0 1 n lx ly))) := by
  cases h : inB n 1 8
  · rw [dsD_one_no h]; exact spec_DicePatch_no c p n lx ly w h
  · rw [dsD_one h]
    have hb := inB_true.1 h
    exact spec_DicePatch_in c p n lx ly n.toNat (by omega) (by omega) h w
theorem toSubPatch_c (U V N : Int) (w : World) : Calls Try.prog 32 #[subV U V N] w fun e w' => e = .returned (subV U V N) ∧ Below w.heap.size w w' := by
  go_enter Try.func32, Try.ntmps32
  go_wp2
  go_returns
  exact ⟨rfl, (by repeat (first | exact Below.refl _ _ | refine Below.drew ?_ | refine Below.alloc ?_ (by first | exact Nat.le_refl _ | (simp; done) | (simp; omega) | omega) _ | refine Below.more ?_ (by first | exact Nat.le_refl _ | (simp; done) | (simp; omega) | omega) _ _ | refine Below.setCell ?_ (by first | exact Nat.le_refl _ | (simp; done) | (simp; omega) | omega) _ | assumption))⟩
set_option maxRecDepth 100000 in
open Go.WideShapes in
theorem open_subpatch {w : World} {r : Reach} {b : Nat} {v : Value} (h : Value.okWide Try.prog w r b 61 v) :
    ∃ x y z : Int, v = .agg #[.int .i64 x, .int .i64 y, .int .i64 z] ∧ ∀ k ∈ [x, y, z], IntKind.i64.has k := by
  obtain ⟨l, rfl, hl, hc⟩ := open_flat (List.replicate 3 3) Try.underlying61 (by kernel_rfl) (by kernel_rfl) h
  obtain ⟨ns, h1, rfl, h3⟩ := cells_ints Try.underlying3 3 l (by simpa using hl) hc
  obtain ⟨a, b, c, rfl⟩ := list3 h1
  exact ⟨a, b, c, rfl, h3⟩
end Go.Proofs.Ytkdkdejgajcneaa
