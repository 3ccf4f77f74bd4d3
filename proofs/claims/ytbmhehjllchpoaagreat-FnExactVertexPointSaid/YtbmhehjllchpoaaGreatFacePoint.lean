/- Contracts of FacePoint: the mean of the vertices of a face. -/
import Derived.Test.YtbmhehjllchpoaaGreatValidMesh
import Derived.Test.YtbmhehjllchpoaaGreatAppInt
namespace Go.Proofs.YtbmhehjllchpoaaGreat
open Go Go.RowKit
/-- The sum of the parts g of the vertices of a face, before place j. -/
def sumTo (l : List VecD) (g : VecD → Int) (f : List Int) (j : Nat) : Int := ((List.range j).map fun i : Nat => g (l.getD (f.getD i 0).toNat default)).sum
theorem sumTo_succ (l : List VecD) (g : VecD → Int) (f : List Int) (j : Nat) : sumTo l g f (j + 1) = sumTo l g f j + g (l.getD (f.getD j 0).toNat default) := by
  simp [sumTo, List.range_succ]
theorem sumTo_bd {l : List VecD} {g : VecD → Int} {f : List Int} {B : Int} : ∀ {j : Nat}, (∀ i, i < j → -B ≤ g (l.getD (f.getD i 0).toNat default) ∧ g (l.getD (f.getD i 0).toNat default) ≤ B) → -(B * j) ≤ sumTo l g f j ∧ sumTo l g f j ≤ B * j
  | 0, _ => by simp [sumTo]
  | j + 1, h => by
    have h1 := sumTo_bd (j := j) (fun i hi => h i (by omega))
    have h2 := h j (by omega)
    rw [sumTo_succ]
    have e : B * ((j + 1 : Nat) : Int) = B * j + B := by rw [Int.natCast_add, Int.mul_add]; simp
    rw [e]
    omega
@[reducible] def fpV (l : List VecD) (f : List Int) : Value := vecV (fdivI (sumTo l (·.f0) f 4) 4) (fdivI (sumTo l (·.f1) f 4) 4) (fdivI (sumTo l (·.f2) f 4) 4)
set_option maxRecDepth 100000 in
theorem fp1_c (i : Nat) (bm n vc b o : Nat) (x y z : Int) (w : World) (hi : i < n) (hm : w.cell? ⟨bm, 0, none⟩ = some (.slice (some ⟨b, o, none⟩) n vc)) (h0 : w.cell? ⟨b, o + i * 3, none⟩ = some (.int .i64 x)) (h1 : w.cell? ⟨b, o + i * 3 + 1, none⟩ = some (.int .i64 y)) (h2 : w.cell? ⟨b, o + i * 3 + 2, none⟩ = some (.int .i64 z)) :
    Calls Tryz.prog 69 #[.int .i64 (i : Int), .pointer (some ⟨bm, 0, none⟩)] w fun e w' => e = .returned (.tuple #[vecV x y z, .int .i64 1]) ∧ Below w.heap.size w w' := by
  have hi1 : (i : Int) < (n : Int) := by omega
  have y1 : bm < w.heap.size := World.block_lt_of_cell? _ _ hm
  have y2 : b < w.heap.size := World.block_lt_of_cell? _ _ h0
  go_enter Tryz.func69, Tryz.ntmps69
  go_wp2
  exact bodyPost_ret (v := .tuple #[vecV x y z, .int .i64 1]) (by simp [results, Tryz.results69, go_sem]) rfl ⟨rfl, (by repeat (first | exact Below.refl _ _ | refine Below.drew ?_ | refine Below.alloc ?_ (by first | exact Nat.le_refl _ | (simp; done) | (simp; omega) | omega) _ | refine Below.more ?_ (by first | exact Nat.le_refl _ | (simp; done) | (simp; omega) | omega) _ _ | refine Below.setCell ?_ (by first | exact Nat.le_refl _ | (simp; done) | (simp; omega) | omega) _ | assumption))⟩
theorem times_one (x y z : Int) (w : World) (hx : In64 x) (hy : In64 y) (hz : In64 z) :
    Calls Tryz.prog 44 #[vecV x y z, .int .i64 1] w fun e w' => e = .returned (vecV x y z) ∧ Below w.heap.size w w' := by
  have h := impl_times x y z 1 w (by simpa using hx) (by simpa using hy) (by simpa using hz)
  simpa using h
/-- A face of a valid mesh and its vertices. -/
structure FaceV (l : List VecD) (n : Nat) (f : List Int) : Prop where
  len : f.length = 4
  ix : ∀ j, j < 4 → ∃ i : Nat, f.getD j 0 = (i : Int) ∧ i < n
  b0 : ∀ j, j < 4 → -1000000 ≤ (l.getD (f.getD j 0).toNat default).f0 ∧ (l.getD (f.getD j 0).toNat default).f0 ≤ 1000000
  b1 : ∀ j, j < 4 → -1000000 ≤ (l.getD (f.getD j 0).toNat default).f1 ∧ (l.getD (f.getD j 0).toNat default).f1 ≤ 1000000
  b2 : ∀ j, j < 4 → -1000000 ≤ (l.getD (f.getD j 0).toNat default).f2 ∧ (l.getD (f.getD j 0).toNat default).f2 ≤ 1000000
theorem faceV_of {p : MeshD} (h : meshOk p) {k : Nat} (hk : k < p.nF) : FaceV p.verts p.nV (faceAt p.faces k) := by
  obtain ⟨_, _, hv, hf, _⟩ := h
  obtain ⟨h4, hin, _⟩ := hf k hk
  have hix : ∀ j, j < 4 → ∃ i : Nat, (faceAt p.faces k).getD j 0 = (i : Int) ∧ i < p.nV := fun j hj => by
    have := hin j (by omega)
    exact ⟨((faceAt p.faces k).getD j 0).toNat, by omega, by omega⟩
  have hb : ∀ j, j < 4 → vecOkD (p.verts.getD ((faceAt p.faces k).getD j 0).toNat default) = true := fun j hj => by
    obtain ⟨i, hi, hn⟩ := hix j hj
    rw [hi, Int.toNat_natCast]
    exact hv i hn
  simp only [vecOkD, vecOk, Bool.and_eq_true, inB_true] at hb
  exact ⟨h4, hix, fun j hj => (hb j hj).1.1, fun j hj => (hb j hj).1.2, fun j hj => (hb j hj).2⟩
theorem sum_in {l : List VecD} {g : VecD → Int} {f : List Int} {j : Nat} (hj : j ≤ 4) (h : ∀ i, i < 4 → -1000000 ≤ g (l.getD (f.getD i 0).toNat default) ∧ g (l.getD (f.getD i 0).toNat default) ≤ 1000000) : -4000000 ≤ sumTo l g f j ∧ sumTo l g f j ≤ 4000000 := by
  have := sumTo_bd (l := l) (g := g) (f := f) (B := 1000000) (j := j) (fun i hi => h i (by omega))
  omega
set_option maxRecDepth 100000 in
set_option maxHeartbeats 2000000 in
theorem weighted_c (a : Option Addr) (cap : Nat) (f : List Int) (l : List VecD) (n : Nat) (bm vc : Nat) (va : Option Addr) (w : World) (hf : FaceV l n f) (hr : Sl w a 1 4 (intAt f)) (hv : Sl w va 3 n (VecD.at l)) (hm : w.cell? ⟨bm, 0, none⟩ = some (.slice va n vc)) (hn : n ≤ 1048576) :
    Calls Tryz.prog 68 #[.slice a 4 cap, .func (.func 69) #[] #[.pointer (some ⟨bm, 0, none⟩)], .int .i64 4] w fun e w' => e = .returned (fpV l f) ∧ Below w.heap.size w w' := by
  have HR := Lib.hid hr
  have HV := Lib.hid hv
  have HFV := Lib.hid hf
  have y0 : bm < w.heap.size := World.block_lt_of_cell? _ _ hm
  clear hr hv hf
  go_enter Tryz.func68, Tryz.ntmps68
  go_wp2
  go_loopw [15] (fun i wr => ∃ (k : Nat), k ≤ 4 ∧ i = .int .i64 k ∧ Below w.heap.size w wr ∧ wr.cell? ⟨w.heap.size + 1, 0, none⟩ = some (.int .i64 (sumTo l (·.f0) f k)) ∧ wr.cell? ⟨w.heap.size + 1, 1, none⟩ = some (.int .i64 (sumTo l (·.f1) f k)) ∧ wr.cell? ⟨w.heap.size + 1, 2, none⟩ = some (.int .i64 (sumTo l (·.f2) f k)) ∧ wr.frozen? ⟨w.heap.size + 1, 0, none⟩ = false ∧ wr.frozen? ⟨w.heap.size + 1, 1, none⟩ = false ∧ wr.frozen? ⟨w.heap.size + 1, 2, none⟩ = false ∧ wr.cell? ⟨w.heap.size, 0, none⟩ = some (.int .i64 0) ∧ wr.frozen? ⟨w.heap.size, 0, none⟩ = false ∧ wr.cell? ⟨w.heap.size, 1, none⟩ = some (.int .i64 0) ∧ wr.frozen? ⟨w.heap.size, 1, none⟩ = false ∧ wr.cell? ⟨w.heap.size, 2, none⟩ = some (.int .i64 0) ∧ wr.frozen? ⟨w.heap.size, 2, none⟩ = false) (fun i _ => 4 - (intOf i).toNat)
  case atStart => exact ⟨0, by omega, rfl, (by repeat (first | exact Below.refl _ _ | refine Below.drew ?_ | refine Below.alloc ?_ (by first | exact Nat.le_refl _ | (simp; done) | (simp; omega) | omega) _ | refine Below.more ?_ (by first | exact Nat.le_refl _ | (simp; done) | (simp; omega) | omega) _ _ | refine Below.setCell ?_ (by first | exact Nat.le_refl _ | (simp; done) | (simp; omega) | omega) _ | assumption)), by simp [go_sem, sumTo], by simp [go_sem, sumTo], by simp [go_sem, sumTo], by simp [go_sem], by simp [go_sem], by simp [go_sem], by simp [go_sem], by simp [go_sem], by simp [go_sem], by simp [go_sem], by simp [go_sem], by simp [go_sem]⟩
  case round =>
    obtain ⟨k, hk, rfl, hbel, s0, s1, s2, z0, z1, z2, r0, x0, r1, x1, r2, x2⟩ := hrel
    have y0' : w.heap.size < wr.heap.size := World.block_lt_of_cell? _ _ r0
    have Y2 : ∀ n, w.heap.size < wr.heap.size + n := fun n => by omega
    have Y3 : ∀ n m, w.heap.size < wr.heap.size + n + m := fun n m => by omega
    have HBEL := Lib.hid hbel
    have y1 : w.heap.size + 1 < wr.heap.size := World.block_lt_of_cell? _ _ s0
    have y2 : ∀ n, w.heap.size + 1 < wr.heap.size + n := fun n => by omega
    have y3 : ∀ n m, w.heap.size + 1 < wr.heap.size + n + m := fun n m => by omega
    have y4 : ∀ n m k, w.heap.size + 1 < wr.heap.size + n + m + k := fun n m k => by omega
    clear hbel
    by_cases hlt : k < 4
    · have hk1 : (k : Int) < 4 := by omega
      obtain ⟨i, hi, hin⟩ := HFV.out.ix k hlt
      obtain ⟨b, o, e, hb, hc⟩ := HR.out.below HBEL.out (by omega)
      subst e
      have c0 : wr.cell? ⟨b, o + k, none⟩ = some (.int .i64 (i : Int)) := by
        have := hc k hlt 0 (by omega)
        rw [Nat.mul_one, Nat.add_zero] at this
        rw [this, ← hi]; simp [intAt]
      clear hc
      have hm' := cell_below (HBEL.out.mono (Nat.le_refl _)) hm
      obtain ⟨b2, o2, e2, hb2, hc2⟩ := HV.out.below HBEL.out (by omega)
      subst e2
      have d0 : wr.cell? ⟨b2, o2 + i * 3, none⟩ = some (.int .i64 (l.getD i default).f0) := hc2 i hin 0 (by omega)
      have d1 : wr.cell? ⟨b2, o2 + i * 3 + 1, none⟩ = some (.int .i64 (l.getD i default).f1) := hc2 i hin 1 (by omega)
      have d2 : wr.cell? ⟨b2, o2 + i * 3 + 2, none⟩ = some (.int .i64 (l.getD i default).f2) := hc2 i hin 2 (by omega)
      clear hc2
      have e0 := HFV.out.b0 k hlt
      have e1 := HFV.out.b1 k hlt
      have e2 := HFV.out.b2 k hlt
      have t0 := sum_in (j := k) (by omega) HFV.out.b0
      have t1 := sum_in (j := k) (by omega) HFV.out.b1
      have t2 := sum_in (j := k) (by omega) HFV.out.b2
      have U0 := Lib.hid (sumTo_succ l (·.f0) f k)
      have U1 := Lib.hid (sumTo_succ l (·.f1) f k)
      have U2 := Lib.hid (sumTo_succ l (·.f2) f k)
      rw [hi, Int.toNat_natCast] at e0 e1 e2 U0 U1 U2
      clear hi
      generalize l.getD i default = xx at *
      obtain ⟨x, y, z⟩ := xx
      dsimp only at d0 d1 d2 e0 e1 e2 U0 U1 U2
      generalize sumTo l (·.f0) f k = S0 at *
      generalize sumTo l (·.f1) f k = S1 at *
      generalize sumTo l (·.f2) f k = S2 at *
      have ix : In64 x := ⟨by omega, by omega⟩
      have iy : In64 y := ⟨by omega, by omega⟩
      have iz : In64 z := ⟨by omega, by omega⟩
      have jx : In64 (S0 + x) := ⟨by omega, by omega⟩
      have jy : In64 (S1 + y) := ⟨by omega, by omega⟩
      have jz : In64 (S2 + z) := ⟨by omega, by omega⟩
      have hf1 := Lib.hid (fp1_c i bm n vc b2 o2 x y z wr hin hm' d0 d1 d2)
      clear hm' d0 d1 d2
      go_wp2_with (go_at_call 69; refine hf1.out.mono ?_; rintro e wn ⟨rfl, hbn⟩; obtain ⟨X, nX, rfl⟩ := Below.ext hbn; clear hbn)
      ((first | refine region_qt2 5 (by kernel_rfl) (by kernel_rfl) ?_ | refine region_qt 5 (by kernel_rfl) (by kernel_rfl) ?_); simp only [List.take_succ_cons, List.take_zero, List.drop_succ_cons, List.drop_zero])
      repeat (quiet_step (fail))
      (refine wpQuiet_step (fun K hK => ?_); go_simp; refine ⟨_, fun zt => ext_below (times_one x y z _ ix iy iz), hK _ ?_⟩; clear hK K)
      repeat (quiet_step (fail))
      (refine wpQuiet_step (fun K hK => ?_); go_simp; refine ⟨_, fun zt => ext_below (impl_plus S0 S1 S2 x y z _ jx jy jz), hK _ ?_⟩; clear hK K)
      repeat (quiet_step (fail))
      (refine wpQuiet_nil ?_; intro X nX)
      go_wp2
      refine ⟨⟨k + 1, by omega, rfl, Below.trans HBEL.out (by repeat (first | exact Below.refl _ _ | refine Below.drew ?_ | refine Below.alloc ?_ (by first | exact Nat.le_refl _ | (simp; done) | (simp; omega) | omega) _ | refine Below.more ?_ (by first | exact Nat.le_refl _ | (simp; done) | (simp; omega) | omega) _ _ | refine Below.setCell ?_ (by first | exact Nat.le_refl _ | (simp; done) | (simp; omega) | omega) _ | assumption)), ?_, ?_, ?_, ?_, ?_, ?_, ?_, ?_, ?_, ?_, ?_, ?_⟩, by simp only [intOf]; omega⟩
      · rw [U0.out]; simp [go_sem, y1, y2, y3, s0, s1, s2]
      · rw [U1.out]; simp [go_sem, y1, y2, y3, s0, s1, s2]
      · rw [U2.out]; simp [go_sem, y1, y2, y3, s0, s1, s2]
      · simp [go_sem, y1, y2, y3, z0]
      · simp [go_sem, y1, y2, y3, z1]
      · simp [go_sem, y1, y2, y3, z2]
      · simp [go_sem, y0', Y2, Y3, r0]
      · simp [go_sem, y0', Y2, Y3, x0]
      · simp [go_sem, y0', Y2, Y3, r1]
      · simp [go_sem, y0', Y2, Y3, x1]
      · simp [go_sem, y0', Y2, Y3, r2]
      · simp [go_sem, y0', Y2, Y3, x2]
    · have hk1 : ¬ (k : Int) < 4 := by omega
      obtain rfl : k = 4 := by omega
      have t0 := sum_in (j := 4) (by omega) HFV.out.b0
      have t1 := sum_in (j := 4) (by omega) HFV.out.b1
      have t2 := sum_in (j := 4) (by omega) HFV.out.b2
      have HE := Lib.hid (show fpV l f = vecV (fdivI (sumTo l (·.f0) f 4) 4) (fdivI (sumTo l (·.f1) f 4) 4) (fdivI (sumTo l (·.f2) f 4) 4) from rfl)
      generalize hS0 : sumTo l (·.f0) f 4 = S0 at *
      generalize hS1 : sumTo l (·.f1) f 4 = S1 at *
      generalize hS2 : sumTo l (·.f2) f 4 = S2 at *
      have HS0 := Lib.hid hS0
      have HS1 := Lib.hid hS1
      have HS2 := Lib.hid hS2
      clear hS0 hS1 hS2
      go_wp2_with (go_at_call 46; refine (impl_over S0 S1 S2 4 _ ⟨by omega, by omega⟩ ⟨by omega, by omega⟩ ⟨by omega, by omega⟩).mono ?_; rintro e wn ⟨rfl, hbn⟩; obtain ⟨X, nX, rfl⟩ := Below.ext hbn; clear hbn)
      exact bodyPost_ret (v := vecV (fdivI S0 4) (fdivI S1 4) (fdivI S2 4)) (by simp [results, Tryz.results68, go_sem, y0', r0, r1, r2, x0, x1, x2]) rfl ⟨by rw [fpV, HS0.out, HS1.out, HS2.out], Below.trans HBEL.out (by repeat (first | exact Below.refl _ _ | refine Below.drew ?_ | refine Below.alloc ?_ (by first | exact Nat.le_refl _ | (simp; done) | (simp; omega) | omega) _ | refine Below.more ?_ (by first | exact Nat.le_refl _ | (simp; done) | (simp; omega) | omega) _ _ | refine Below.setCell ?_ (by first | exact Nat.le_refl _ | (simp; done) | (simp; omega) | omega) _ | assumption))⟩
end Go.Proofs.YtbmhehjllchpoaaGreat
