/- EdgePoint, with FacePoint, FacePointS, FacePointT, Sums ahead of it. -/
import Derived.Test.YtpfmcobkfofbjaaValidMesh
import Derived.Test.YtpfmcobkfofbjaaAppInt
import Derived.Test.YtpfmcobkfofbjaaValidMeshS
import Derived.Test.YtpfmcobkfofbjaaEdgesS
import Derived.Test.YtpfmcobkfofbjaaApp2
namespace Go.Proofs.Ytpfmcobkfofbjaa
open Go Go.RowKit
/-- The sum of the parts g of the vertices of a face, before place j. -/
def sumTo (l : List VecD) (g : VecD → Int) (f : List Int) (j : Nat) : Int := ((List.range j).map fun i : Nat => g (l.getD (f.getD i 0).toNat default)).sum
theorem sumTo_succ (l : List VecD) (g : VecD → Int) (f : List Int) (j : Nat) : sumTo l g f (j + 1) = sumTo l g f j + g (l.getD (f.getD j 0).toNat default) := by
  simp [sumTo, List.range_succ]
theorem sumTo_bd {l : List VecD} {g : VecD → Int} {f : List Int} {B : Int} : ∀ {j : Nat}, (∀ i, i < j → -B ≤ g (l.getD (f.getD i 0).toNat default) ∧ g (l.getD (f.getD i 0).toNat default) ≤ B) → -(B * j) ≤ sumTo l g f j ∧ sumTo l g f j ≤ B * j
  | 0, _ => by simp [sumTo]
  | j + 1, h => by
    have h1 := sumTo_bd (j := j) (fun i hi => h i (by omega))
    have h2 := h j (by omega)
    rw [sumTo_succ]
    have e : B * ((j + 1 : Nat) : Int) = B * j + B := by rw [Int.natCast_add, Int.mul_add]; simp
    rw [e]
    omega
@[reducible] def fpV (l : List VecD) (f : List Int) : Value := vecV (fdivI (sumTo l (·.f0) f 4) 4) (fdivI (sumTo l (·.f1) f 4) 4) (fdivI (sumTo l (·.f2) f 4) 4)
set_option maxRecDepth 100000 in
theorem fp1_c (i : Nat) (bm n vc b o : Nat) (x y z : Int) (w : World) (hi : i < n) (hm : w.cell? ⟨bm, 0, none⟩ = some (.slice (some ⟨b, o, none⟩) n vc)) (h0 : w.cell? ⟨b, o + i * 3, none⟩ = some (.int .i64 x)) (h1 : w.cell? ⟨b, o + i * 3 + 1, none⟩ = some (.int .i64 y)) (h2 : w.cell? ⟨b, o + i * 3 + 2, none⟩ = some (.int .i64 z)) :
    Calls Try.prog 51 #[.int .i64 (i : Int), .pointer (some ⟨bm, 0, none⟩)] w fun e w' => e = .returned (.tuple #[vecV x y z, .int .i64 1]) ∧ Below w.heap.size w w' := by
  have hi1 : (i : Int) < (n : Int) := by omega
  have y1 : bm < w.heap.size := World.block_lt_of_cell? _ _ hm
  have y2 : b < w.heap.size := World.block_lt_of_cell? _ _ h0
  go_enter Try.func51, Try.ntmps51
  go_wp2
  exact bodyPost_ret (v := .tuple #[vecV x y z, .int .i64 1]) (by simp [results, Try.results51, go_sem]) rfl ⟨rfl, (by repeat (first | exact Below.refl _ _ | refine Below.drew ?_ | refine Below.alloc ?_ (by first | exact Nat.le_refl _ | (simp; done) | (simp; omega) | omega) _ | refine Below.more ?_ (by first | exact Nat.le_refl _ | (simp; done) | (simp; omega) | omega) _ _ | refine Below.setCell ?_ (by first | exact Nat.le_refl _ | (simp; done) | (simp; omega) | omega) _ | assumption))⟩
theorem times_one (x y z : Int) (w : World) (hx : In64 x) (hy : In64 y) (hz : In64 z) :
    Calls Try.prog 46 #[vecV x y z, .int .i64 1] w fun e w' => e = .returned (vecV x y z) ∧ Below w.heap.size w w' := by
  have h := impl_times x y z 1 w (by simpa using hx) (by simpa using hy) (by simpa using hz)
  simpa using h
/-- A face of a valid mesh and its vertices. -/
structure FaceV (l : List VecD) (n : Nat) (f : List Int) : Prop where
  len : f.length = 4
  ix : ∀ j, j < 4 → ∃ i : Nat, f.getD j 0 = (i : Int) ∧ i < n
  b0 : ∀ j, j < 4 → -1000000 ≤ (l.getD (f.getD j 0).toNat default).f0 ∧ (l.getD (f.getD j 0).toNat default).f0 ≤ 1000000
  b1 : ∀ j, j < 4 → -1000000 ≤ (l.getD (f.getD j 0).toNat default).f1 ∧ (l.getD (f.getD j 0).toNat default).f1 ≤ 1000000
  b2 : ∀ j, j < 4 → -1000000 ≤ (l.getD (f.getD j 0).toNat default).f2 ∧ (l.getD (f.getD j 0).toNat default).f2 ≤ 1000000
theorem faceV_of {p : MeshD} (h : meshOk p) {k : Nat} (hk : k < p.nF) : FaceV p.verts p.nV (faceAt p.faces k) := by
  obtain ⟨_, _, hv, hf, _⟩ := h
  obtain ⟨h4, hin, _⟩ := hf k hk
  have hix : ∀ j, j < 4 → ∃ i : Nat, (faceAt p.faces k).getD j 0 = (i : Int) ∧ i < p.nV := fun j hj => by
    have := hin j (by omega)
    exact ⟨((faceAt p.faces k).getD j 0).toNat, by omega, by omega⟩
  have hb : ∀ j, j < 4 → vecOkD (p.verts.getD ((faceAt p.faces k).getD j 0).toNat default) = true := fun j hj => by
    obtain ⟨i, hi, hn⟩ := hix j hj
    rw [hi, Int.toNat_natCast]
    exact hv i hn
  simp only [vecOkD, vecOk, Bool.and_eq_true, inB_true] at hb
  exact ⟨h4, hix, fun j hj => (hb j hj).1.1, fun j hj => (hb j hj).1.2, fun j hj => (hb j hj).2⟩
theorem sum_in {l : List VecD} {g : VecD → Int} {f : List Int} {j : Nat} (hj : j ≤ 4) (h : ∀ i, i < 4 → -1000000 ≤ g (l.getD (f.getD i 0).toNat default) ∧ g (l.getD (f.getD i 0).toNat default) ≤ 1000000) : -4000000 ≤ sumTo l g f j ∧ sumTo l g f j ≤ 4000000 := by
  have := sumTo_bd (l := l) (g := g) (f := f) (B := 1000000) (j := j) (fun i hi => h i (by omega))
  omega
set_option maxRecDepth 100000 in
set_option maxHeartbeats 2000000 in
theorem weighted_c (a : Option Addr) (cap : Nat) (f : List Int) (l : List VecD) (n : Nat) (bm vc : Nat) (va : Option Addr) (w : World) (hf : FaceV l n f) (hr : Sl w a 1 4 (intAt f)) (hv : Sl w va 3 n (VecD.at l)) (hm : w.cell? ⟨bm, 0, none⟩ = some (.slice va n vc)) (hn : n ≤ 1048576) :
    Calls Try.prog 50 #[.slice a 4 cap, .func (.func 51) #[] #[.pointer (some ⟨bm, 0, none⟩)], .int .i64 4] w fun e w' => e = .returned (fpV l f) ∧ Below w.heap.size w w' := by
  have HR := Lib.hid hr
  have HV := Lib.hid hv
  have HFV := Lib.hid hf
  have y0 : bm < w.heap.size := World.block_lt_of_cell? _ _ hm
  clear hr hv hf
  go_enter Try.func50, Try.ntmps50
  go_wp2
  go_loopw [15] (fun i wr => ∃ (k : Nat), k ≤ 4 ∧ i = .int .i64 k ∧ Below w.heap.size w wr ∧ wr.cell? ⟨w.heap.size + 1, 0, none⟩ = some (.int .i64 (sumTo l (·.f0) f k)) ∧ wr.cell? ⟨w.heap.size + 1, 1, none⟩ = some (.int .i64 (sumTo l (·.f1) f k)) ∧ wr.cell? ⟨w.heap.size + 1, 2, none⟩ = some (.int .i64 (sumTo l (·.f2) f k)) ∧ wr.frozen? ⟨w.heap.size + 1, 0, none⟩ = false ∧ wr.frozen? ⟨w.heap.size + 1, 1, none⟩ = false ∧ wr.frozen? ⟨w.heap.size + 1, 2, none⟩ = false ∧ wr.cell? ⟨w.heap.size, 0, none⟩ = some (.int .i64 0) ∧ wr.frozen? ⟨w.heap.size, 0, none⟩ = false ∧ wr.cell? ⟨w.heap.size, 1, none⟩ = some (.int .i64 0) ∧ wr.frozen? ⟨w.heap.size, 1, none⟩ = false ∧ wr.cell? ⟨w.heap.size, 2, none⟩ = some (.int .i64 0) ∧ wr.frozen? ⟨w.heap.size, 2, none⟩ = false) (fun i _ => 4 - (intOf i).toNat)
  case atStart => exact ⟨0, by omega, rfl, (by repeat (first | exact Below.refl _ _ | refine Below.drew ?_ | refine Below.alloc ?_ (by first | exact Nat.le_refl _ | (simp; done) | (simp; omega) | omega) _ | refine Below.more ?_ (by first | exact Nat.le_refl _ | (simp; done) | (simp; omega) | omega) _ _ | refine Below.setCell ?_ (by first | exact Nat.le_refl _ | (simp; done) | (simp; omega) | omega) _ | assumption)), by simp [go_sem, sumTo], by simp [go_sem, sumTo], by simp [go_sem, sumTo], by simp [go_sem], by simp [go_sem], by simp [go_sem], by simp [go_sem], by simp [go_sem], by simp [go_sem], by simp [go_sem], by simp [go_sem], by simp [go_sem]⟩
  case round =>
    obtain ⟨k, hk, rfl, hbel, s0, s1, s2, z0, z1, z2, r0, x0, r1, x1, r2, x2⟩ := hrel
    have y0' : w.heap.size < wr.heap.size := World.block_lt_of_cell? _ _ r0
    have Y2 : ∀ n, w.heap.size < wr.heap.size + n := fun n => by omega
    have Y3 : ∀ n m, w.heap.size < wr.heap.size + n + m := fun n m => by omega
    have HBEL := Lib.hid hbel
    have y1 : w.heap.size + 1 < wr.heap.size := World.block_lt_of_cell? _ _ s0
    have y2 : ∀ n, w.heap.size + 1 < wr.heap.size + n := fun n => by omega
    have y3 : ∀ n m, w.heap.size + 1 < wr.heap.size + n + m := fun n m => by omega
    have y4 : ∀ n m k, w.heap.size + 1 < wr.heap.size + n + m + k := fun n m k => by omega
    clear hbel
    by_cases hlt : k < 4
    · have hk1 : (k : Int) < 4 := by omega
      obtain ⟨i, hi, hin⟩ := HFV.out.ix k hlt
      obtain ⟨b, o, e, hb, hc⟩ := HR.out.below HBEL.out (by omega)
      subst e
      have c0 : wr.cell? ⟨b, o + k, none⟩ = some (.int .i64 (i : Int)) := by
        have := hc k hlt 0 (by omega)
        rw [Nat.mul_one, Nat.add_zero] at this
        rw [this, ← hi]; simp [intAt]
      clear hc
      have hm' := cell_below (HBEL.out.mono (Nat.le_refl _)) hm
      obtain ⟨b2, o2, e2, hb2, hc2⟩ := HV.out.below HBEL.out (by omega)
      subst e2
      have d0 : wr.cell? ⟨b2, o2 + i * 3, none⟩ = some (.int .i64 (l.getD i default).f0) := hc2 i hin 0 (by omega)
      have d1 : wr.cell? ⟨b2, o2 + i * 3 + 1, none⟩ = some (.int .i64 (l.getD i default).f1) := hc2 i hin 1 (by omega)
      have d2 : wr.cell? ⟨b2, o2 + i * 3 + 2, none⟩ = some (.int .i64 (l.getD i default).f2) := hc2 i hin 2 (by omega)
      clear hc2
      have e0 := HFV.out.b0 k hlt
      have e1 := HFV.out.b1 k hlt
      have e2 := HFV.out.b2 k hlt
      have t0 := sum_in (j := k) (by omega) HFV.out.b0
      have t1 := sum_in (j := k) (by omega) HFV.out.b1
      have t2 := sum_in (j := k) (by omega) HFV.out.b2
      have U0 := Lib.hid (sumTo_succ l (·.f0) f k)
      have U1 := Lib.hid (sumTo_succ l (·.f1) f k)
      have U2 := Lib.hid (sumTo_succ l (·.f2) f k)
      rw [hi, Int.toNat_natCast] at e0 e1 e2 U0 U1 U2
      clear hi
      generalize l.getD i default = xx at *
      obtain ⟨x, y, z⟩ := xx
      dsimp only at d0 d1 d2 e0 e1 e2 U0 U1 U2
      generalize sumTo l (·.f0) f k = S0 at *
      generalize sumTo l (·.f1) f k = S1 at *
      generalize sumTo l (·.f2) f k = S2 at *
      have ix : In64 x := ⟨by omega, by omega⟩
      have iy : In64 y := ⟨by omega, by omega⟩
      have iz : In64 z := ⟨by omega, by omega⟩
      have jx : In64 (S0 + x) := ⟨by omega, by omega⟩
      have jy : In64 (S1 + y) := ⟨by omega, by omega⟩
      have jz : In64 (S2 + z) := ⟨by omega, by omega⟩
      have hf1 := Lib.hid (fp1_c i bm n vc b2 o2 x y z wr hin hm' d0 d1 d2)
      clear hm' d0 d1 d2
      go_wp2_with (go_at_call 51; refine hf1.out.mono ?_; rintro e wn ⟨rfl, hbn⟩; obtain ⟨X, nX, rfl⟩ := Below.ext hbn; clear hbn)
      ((first | refine region_qt2 5 (by kernel_rfl) (by kernel_rfl) ?_ | refine region_qt 5 (by kernel_rfl) (by kernel_rfl) ?_); simp only [List.take_succ_cons, List.take_zero, List.drop_succ_cons, List.drop_zero])
      repeat (quiet_step (fail))
      (refine wpQuiet_step (fun K hK => ?_); go_simp; refine ⟨_, fun zt => ext_below (times_one x y z _ ix iy iz), hK _ ?_⟩; clear hK K)
      repeat (quiet_step (fail))
      (refine wpQuiet_step (fun K hK => ?_); go_simp; refine ⟨_, fun zt => ext_below (impl_plus S0 S1 S2 x y z _ jx jy jz), hK _ ?_⟩; clear hK K)
      repeat (quiet_step (fail))
      (refine wpQuiet_nil ?_; intro X nX)
      go_wp2
      refine ⟨⟨k + 1, by omega, rfl, Below.trans HBEL.out (by repeat (first | exact Below.refl _ _ | refine Below.drew ?_ | refine Below.alloc ?_ (by first | exact Nat.le_refl _ | (simp; done) | (simp; omega) | omega) _ | refine Below.more ?_ (by first | exact Nat.le_refl _ | (simp; done) | (simp; omega) | omega) _ _ | refine Below.setCell ?_ (by first | exact Nat.le_refl _ | (simp; done) | (simp; omega) | omega) _ | assumption)), ?_, ?_, ?_, ?_, ?_, ?_, ?_, ?_, ?_, ?_, ?_, ?_⟩, by simp only [intOf]; omega⟩
      · rw [U0.out]; simp [go_sem, y1, y2, y3, s0]
      · rw [U1.out]; simp [go_sem, y1, y2, y3, s1]
      · rw [U2.out]; simp [go_sem, y1, y2, y3, s2]
      · simp [go_sem, y1, y2, y3, z0]
      · simp [go_sem, y1, y2, y3, z1]
      · simp [go_sem, y1, y2, y3, z2]
      · simp [go_sem, y0', Y2, Y3, r0]
      · simp [go_sem, y0', Y2, Y3, x0]
      · simp [go_sem, y0', Y2, Y3, r1]
      · simp [go_sem, y0', Y2, Y3, x1]
      · simp [go_sem, y0', Y2, Y3, r2]
      · simp [go_sem, y0', Y2, Y3, x2]
    · have hk1 : ¬ (k : Int) < 4 := by omega
      obtain rfl : k = 4 := by omega
      have t0 := sum_in (j := 4) (by omega) HFV.out.b0
      have t1 := sum_in (j := 4) (by omega) HFV.out.b1
      have t2 := sum_in (j := 4) (by omega) HFV.out.b2
      have HE := Lib.hid (show fpV l f = vecV (fdivI (sumTo l (·.f0) f 4) 4) (fdivI (sumTo l (·.f1) f 4) 4) (fdivI (sumTo l (·.f2) f 4) 4) from rfl)
      generalize hS0 : sumTo l (·.f0) f 4 = S0 at *
      generalize hS1 : sumTo l (·.f1) f 4 = S1 at *
      generalize hS2 : sumTo l (·.f2) f 4 = S2 at *
      have HS0 := Lib.hid hS0
      have HS1 := Lib.hid hS1
      have HS2 := Lib.hid hS2
      clear hS0 hS1 hS2
      go_wp2_with (go_at_call 48; refine (impl_over S0 S1 S2 4 _ ⟨by omega, by omega⟩ ⟨by omega, by omega⟩ ⟨by omega, by omega⟩).mono ?_; rintro e wn ⟨rfl, hbn⟩; obtain ⟨X, nX, rfl⟩ := Below.ext hbn; clear hbn)
      exact bodyPost_ret (v := vecV (fdivI S0 4) (fdivI S1 4) (fdivI S2 4)) (by simp [results, Try.results50, go_sem, y0', r0, r1, r2]) rfl ⟨by rw [fpV, HS0.out, HS1.out, HS2.out], Below.trans HBEL.out (by repeat (first | exact Below.refl _ _ | refine Below.drew ?_ | refine Below.alloc ?_ (by first | exact Nat.le_refl _ | (simp; done) | (simp; omega) | omega) _ | refine Below.more ?_ (by first | exact Nat.le_refl _ | (simp; done) | (simp; omega) | omega) _ _ | refine Below.setCell ?_ (by first | exact Nat.le_refl _ | (simp; done) | (simp; omega) | omega) _ | assumption))⟩
end Go.Proofs.Ytpfmcobkfofbjaa
namespace Go.Proofs.Ytpfmcobkfofbjaa
open Go Go.RowKit
set_option maxRecDepth 100000 in
theorem facePoint_c (v : Value) (p : MeshD) (k : Nat) (w : World) (hr : MeshR w v p) (hs : MeshSz 1048576 p) (hm : meshOk p) (hk : k < p.nF) :
    Calls Try.prog 24 #[v, .int .i64 (k : Int)] w fun e w' => e = .returned (fpV p.verts (faceAt p.faces k)) ∧ Below w.heap.size w w' := by
  have HFV := Lib.hid (faceV_of hm hk)
  obtain ⟨a, c, a', c', rfl, h1, ⟨A, K, h2, h3, h4⟩⟩ := hr
  obtain ⟨hs1, hs2, hs3⟩ := hs
  clear hm hs3 h4
  generalize p.nV = n at *
  generalize p.nF = m at *
  generalize p.verts = l at *
  generalize p.faces = s at *
  have hk1 : (k : Int) < (m : Int) := by omega
  obtain ⟨b, o, rfl, hb, hc⟩ := h2 (by omega)
  have c0 : w.cell? ⟨b, o + k, none⟩ = some (.slice (A k) (faceAt s k).length (K k)) := by have := hc k hk 0 (by omega); rw [Nat.mul_one, Nat.add_zero] at this; exact this
  clear hc h2
  have hsl := h3 k hk
  clear h3
  generalize A k = ak at *
  generalize K k = kk at *
  generalize faceAt s k = f at *
  rw [HFV.out.len] at c0 hsl
  have HSL := Lib.hid hsl
  have HV := Lib.hid h1
  clear hsl h1
  go_enter Try.func24, Try.ntmps24
  go_wp2_with (go_at_call 50; refine (weighted_c ak kk f l n _ c a _ HFV.out (HSL.out.below (by repeat (first | exact Below.refl _ _ | refine Below.drew ?_ | refine Below.alloc ?_ (by first | exact Nat.le_refl _ | (simp; done) | (simp; omega) | omega) _ | refine Below.more ?_ (by first | exact Nat.le_refl _ | (simp; done) | (simp; omega) | omega) _ _ | refine Below.setCell ?_ (by first | exact Nat.le_refl _ | (simp; done) | (simp; omega) | omega) _ | assumption))) (HV.out.below (by repeat (first | exact Below.refl _ _ | refine Below.drew ?_ | refine Below.alloc ?_ (by first | exact Nat.le_refl _ | (simp; done) | (simp; omega) | omega) _ | refine Below.more ?_ (by first | exact Nat.le_refl _ | (simp; done) | (simp; omega) | omega) _ _ | refine Below.setCell ?_ (by first | exact Nat.le_refl _ | (simp; done) | (simp; omega) | omega) _ | assumption))) (by simp [go_sem]) hs1).mono ?_; rintro e wn ⟨rfl, hbn⟩; obtain ⟨X, nX, rfl⟩ := Below.ext hbn; clear hbn)
  exact bodyPost_ret (v := fpV l f) (by simp [results, Try.results24, go_sem]) rfl ⟨rfl, (by repeat (first | exact Below.refl _ _ | refine Below.drew ?_ | refine Below.alloc ?_ (by first | exact Nat.le_refl _ | (simp; done) | (simp; omega) | omega) _ | refine Below.more ?_ (by first | exact Nat.le_refl _ | (simp; done) | (simp; omega) | omega) _ _ | refine Below.setCell ?_ (by first | exact Nat.le_refl _ | (simp; done) | (simp; omega) | omega) _ | assumption))⟩
/-- The mean of the vertices of a face, where there is one. -/
def fpOk (p : MeshD) (x : Int) : Prop := meshOk p ∧ 0 ≤ x ∧ x ≤ (p.nF : Int) - 1
open Classical in
noncomputable def fpR (p : MeshD) (x : Int) : Value := if fpOk p x then fpV p.verts (faceAt p.faces x.toNat) else vecV 0 0 0
theorem fpR_yes {p : MeshD} {x : Int} (h : fpOk p x) : fpR p x = fpV p.verts (faceAt p.faces x.toNat) := by rw [fpR, if_pos h]
theorem fpR_no {p : MeshD} {x : Int} (h : ¬ fpOk p x) : fpR p x = vecV 0 0 0 := by rw [fpR, if_neg h]
end Go.Proofs.Ytpfmcobkfofbjaa
namespace Go.Proofs.Ytpfmcobkfofbjaa
open Go Go.RowKit
def fvAt (l : List VecD) (f : List Int) (j : Nat) : List Value := (l.getD (f.getD j 0).toNat default).cells
end Go.Proofs.Ytpfmcobkfofbjaa
namespace Go.Proofs.Ytpfmcobkfofbjaa
open Go Go.RowKit
def sumL (g : VecD → Int) (L : List VecD) (j : Nat) : Int := ((List.range j).map fun i : Nat => g (L.getD i default)).sum
theorem sumL_succ (g : VecD → Int) (L : List VecD) (j : Nat) : sumL g L (j + 1) = sumL g L j + g (L.getD j default) := by
  simp only [sumL, List.range_succ, List.map_append, List.map_cons, List.map_nil, List.sum_append, List.sum_cons, List.sum_nil]
  omega
/-- Each part is at most 2^40. -/
structure VecB (x : VecD) : Prop where
  b0 : -1099511627776 ≤ x.f0 ∧ x.f0 ≤ 1099511627776
  b1 : -1099511627776 ≤ x.f1 ∧ x.f1 ≤ 1099511627776
  b2 : -1099511627776 ≤ x.f2 ∧ x.f2 ≤ 1099511627776
def VecsB (L : List VecD) (n : Nat) : Prop := ∀ i, i < n → VecB (L.getD i default)
theorem sumL_bd {g : VecD → Int} {L : List VecD} : ∀ {j : Nat}, (∀ i, i < j → -1099511627776 ≤ g (L.getD i default) ∧ g (L.getD i default) ≤ 1099511627776) → -(1099511627776 * j) ≤ sumL g L j ∧ sumL g L j ≤ 1099511627776 * j
  | 0, _ => by simp [sumL]
  | j + 1, h => by
    have := sumL_bd (j := j) (fun i hi => h i (by omega))
    have := h j (by omega)
    rw [sumL_succ]
    omega
theorem sumL_in0 {L : List VecD} {n j : Nat} (h : VecsB L n) (hn : n ≤ 1000) (hj : j ≤ n) : -1099511627776000 ≤ sumL (·.f0) L j ∧ sumL (·.f0) L j ≤ 1099511627776000 := by
  have := sumL_bd (g := (·.f0)) (L := L) (j := j) (fun i hi => (h i (by omega)).b0)
  omega
theorem sumL_in1 {L : List VecD} {n j : Nat} (h : VecsB L n) (hn : n ≤ 1000) (hj : j ≤ n) : -1099511627776000 ≤ sumL (·.f1) L j ∧ sumL (·.f1) L j ≤ 1099511627776000 := by
  have := sumL_bd (g := (·.f1)) (L := L) (j := j) (fun i hi => (h i (by omega)).b1)
  omega
theorem sumL_in2 {L : List VecD} {n j : Nat} (h : VecsB L n) (hn : n ≤ 1000) (hj : j ≤ n) : -1099511627776000 ≤ sumL (·.f2) L j ∧ sumL (·.f2) L j ≤ 1099511627776000 := by
  have := sumL_bd (g := (·.f2)) (L := L) (j := j) (fun i hi => (h i (by omega)).b2)
  omega
/-- The mean of a list, by n. -/
def meanL (L : List VecD) (n m : Nat) : Value := vecV (fdivI (sumL (·.f0) L n) m) (fdivI (sumL (·.f1) L n) m) (fdivI (sumL (·.f2) L n) m)
set_option maxRecDepth 100000 in
theorem avg1_c (x y z : Int) (w : World) : Calls Try.prog 67 #[vecV x y z] w fun e w' => e = .returned (.tuple #[vecV x y z, .int .i64 1]) ∧ Below w.heap.size w w' := by
  go_enter Try.func67, Try.ntmps67
  go_wp2
  exact bodyPost_ret (v := .tuple #[vecV x y z, .int .i64 1]) (by simp [results, Try.results67, go_sem]) rfl ⟨rfl, (by repeat (first | exact Below.refl _ _ | refine Below.drew ?_ | refine Below.alloc ?_ (by first | exact Nat.le_refl _ | (simp; done) | (simp; omega) | omega) _ | refine Below.more ?_ (by first | exact Nat.le_refl _ | (simp; done) | (simp; omega) | omega) _ _ | refine Below.setCell ?_ (by first | exact Nat.le_refl _ | (simp; done) | (simp; omega) | omega) _ | assumption))⟩
set_option maxRecDepth 100000 in
set_option maxHeartbeats 2000000 in
theorem weightedV_c (a : Option Addr) (cap : Nat) (L : List VecD) (n : Nat) (w : World) (hf : VecsB L n) (hn : n ≤ 1000) (hr : Sl w a 3 n (VecD.at L)) :
    Calls Try.prog 66 #[.slice a n cap, .func (.func 67) #[] #[], .int .i64 n] w fun e w' => e = .returned (meanL L n n) ∧ Below w.heap.size w w' := by
  have HR := Lib.hid hr
  have HFV := Lib.hid hf
  clear hr hf
  go_enter Try.func66, Try.ntmps66
  go_wp2
  go_loopw [15] (fun i wr => ∃ (k : Nat), k ≤ n ∧ i = .int .i64 k ∧ Below w.heap.size w wr ∧ wr.cell? ⟨w.heap.size + 1, 0, none⟩ = some (.int .i64 (sumL (·.f0) L k)) ∧ wr.cell? ⟨w.heap.size + 1, 1, none⟩ = some (.int .i64 (sumL (·.f1) L k)) ∧ wr.cell? ⟨w.heap.size + 1, 2, none⟩ = some (.int .i64 (sumL (·.f2) L k)) ∧ wr.frozen? ⟨w.heap.size + 1, 0, none⟩ = false ∧ wr.frozen? ⟨w.heap.size + 1, 1, none⟩ = false ∧ wr.frozen? ⟨w.heap.size + 1, 2, none⟩ = false ∧ wr.cell? ⟨w.heap.size, 0, none⟩ = some (.int .i64 0) ∧ wr.frozen? ⟨w.heap.size, 0, none⟩ = false ∧ wr.cell? ⟨w.heap.size, 1, none⟩ = some (.int .i64 0) ∧ wr.frozen? ⟨w.heap.size, 1, none⟩ = false ∧ wr.cell? ⟨w.heap.size, 2, none⟩ = some (.int .i64 0) ∧ wr.frozen? ⟨w.heap.size, 2, none⟩ = false) (fun i _ => n - (intOf i).toNat)
  case atStart => exact ⟨0, by omega, rfl, (by repeat (first | exact Below.refl _ _ | refine Below.drew ?_ | refine Below.alloc ?_ (by first | exact Nat.le_refl _ | (simp; done) | (simp; omega) | omega) _ | refine Below.more ?_ (by first | exact Nat.le_refl _ | (simp; done) | (simp; omega) | omega) _ _ | refine Below.setCell ?_ (by first | exact Nat.le_refl _ | (simp; done) | (simp; omega) | omega) _ | assumption)), by simp [go_sem, sumL], by simp [go_sem, sumL], by simp [go_sem, sumL], by simp [go_sem], by simp [go_sem], by simp [go_sem], by simp [go_sem], by simp [go_sem], by simp [go_sem], by simp [go_sem], by simp [go_sem], by simp [go_sem]⟩
  case round =>
    obtain ⟨k, hk, rfl, hbel, s0, s1, s2, z0, z1, z2, r0, x0, r1, x1, r2, x2⟩ := hrel
    have y0' : w.heap.size < wr.heap.size := World.block_lt_of_cell? _ _ r0
    have Y2 : ∀ n, w.heap.size < wr.heap.size + n := fun n => by omega
    have Y3 : ∀ n m, w.heap.size < wr.heap.size + n + m := fun n m => by omega
    have HBEL := Lib.hid hbel
    have y1 : w.heap.size + 1 < wr.heap.size := World.block_lt_of_cell? _ _ s0
    have y2 : ∀ n, w.heap.size + 1 < wr.heap.size + n := fun n => by omega
    have y3 : ∀ n m, w.heap.size + 1 < wr.heap.size + n + m := fun n m => by omega
    have y4 : ∀ n m k, w.heap.size + 1 < wr.heap.size + n + m + k := fun n m k => by omega
    have Y4 : ∀ n m k, w.heap.size < wr.heap.size + n + m + k := fun n m k => by omega
    clear hbel
    by_cases hlt : k < n
    · have hk1 : (k : Int) < (n : Int) := by omega
      obtain ⟨b, o, e, hb, hc⟩ := HR.out.below HBEL.out (by omega)
      subst e
      have d0 : wr.cell? ⟨b, o + k * 3, none⟩ = some (.int .i64 (L.getD k default).f0) := hc k hlt 0 (by omega)
      have d1 : wr.cell? ⟨b, o + k * 3 + 1, none⟩ = some (.int .i64 (L.getD k default).f1) := hc k hlt 1 (by omega)
      have d2 : wr.cell? ⟨b, o + k * 3 + 2, none⟩ = some (.int .i64 (L.getD k default).f2) := hc k hlt 2 (by omega)
      clear hc
      have e0 := (HFV.out k hlt).b0
      have e1 := (HFV.out k hlt).b1
      have e2 := (HFV.out k hlt).b2
      have t0 := sumL_in0 HFV.out hn (j := k) (by omega)
      have t1 := sumL_in1 HFV.out hn (j := k) (by omega)
      have t2 := sumL_in2 HFV.out hn (j := k) (by omega)
      have U0 := Lib.hid (sumL_succ (·.f0) L k)
      have U1 := Lib.hid (sumL_succ (·.f1) L k)
      have U2 := Lib.hid (sumL_succ (·.f2) L k)
      generalize L.getD k default = xx at *
      obtain ⟨x, y, z⟩ := xx
      dsimp only at d0 d1 d2 e0 e1 e2 U0 U1 U2
      generalize sumL (·.f0) L k = S0 at *
      generalize sumL (·.f1) L k = S1 at *
      generalize sumL (·.f2) L k = S2 at *
      have ix : In64 x := ⟨by omega, by omega⟩
      have iy : In64 y := ⟨by omega, by omega⟩
      have iz : In64 z := ⟨by omega, by omega⟩
      have jx : In64 (S0 + x) := ⟨by omega, by omega⟩
      have jy : In64 (S1 + y) := ⟨by omega, by omega⟩
      have jz : In64 (S2 + z) := ⟨by omega, by omega⟩
      go_wp2_with (go_at_call 67; refine (avg1_c x y z _).mono ?_; rintro e wn ⟨rfl, hbn⟩; obtain ⟨X, nX, rfl⟩ := Below.ext hbn; clear hbn)
      ((first | refine region_qt2 5 (by kernel_rfl) (by kernel_rfl) ?_ | refine region_qt 5 (by kernel_rfl) (by kernel_rfl) ?_); simp only [List.take_succ_cons, List.take_zero, List.drop_succ_cons, List.drop_zero])
      repeat (quiet_step (fail))
      (refine wpQuiet_step (fun K hK => ?_); go_simp; refine ⟨_, fun zt => ext_below (times_one x y z _ ix iy iz), hK _ ?_⟩; clear hK K)
      repeat (quiet_step (fail))
      (refine wpQuiet_step (fun K hK => ?_); go_simp; refine ⟨_, fun zt => ext_below (impl_plus S0 S1 S2 x y z _ jx jy jz), hK _ ?_⟩; clear hK K)
      repeat (quiet_step (fail))
      (refine wpQuiet_nil ?_; intro X nX)
      go_wp2
      refine ⟨⟨k + 1, by omega, rfl, Below.trans HBEL.out (by repeat (first | exact Below.refl _ _ | refine Below.drew ?_ | refine Below.alloc ?_ (by first | exact Nat.le_refl _ | (simp; done) | (simp; omega) | omega) _ | refine Below.more ?_ (by first | exact Nat.le_refl _ | (simp; done) | (simp; omega) | omega) _ _ | refine Below.setCell ?_ (by first | exact Nat.le_refl _ | (simp; done) | (simp; omega) | omega) _ | assumption)), ?_, ?_, ?_, ?_, ?_, ?_, ?_, ?_, ?_, ?_, ?_, ?_⟩, by simp only [intOf]; omega⟩
      · rw [U0.out]; simp [go_sem, y1, y2, y3, y4, s0]
      · rw [U1.out]; simp [go_sem, y1, y2, y3, y4, s1]
      · rw [U2.out]; simp [go_sem, y1, y2, y3, y4, s2]
      · simp [go_sem, y1, y2, y3, y4, z0]
      · simp [go_sem, y1, y2, y3, y4, z1]
      · simp [go_sem, y1, y2, y3, y4, z2]
      · simp [go_sem, y0', Y2, Y3, Y4, r0]
      · simp [go_sem, y0', Y2, Y3, Y4, x0]
      · simp [go_sem, y0', Y2, Y3, Y4, r1]
      · simp [go_sem, y0', Y2, Y3, Y4, x1]
      · simp [go_sem, y0', Y2, Y3, Y4, r2]
      · simp [go_sem, y0', Y2, Y3, Y4, x2]
    · have hk1 : ¬ (k : Int) < (n : Int) := by omega
      have hkn : k = n := by omega
      subst hkn
      have t0 := sumL_in0 HFV.out hn (j := k) (by omega)
      have t1 := sumL_in1 HFV.out hn (j := k) (by omega)
      have t2 := sumL_in2 HFV.out hn (j := k) (by omega)
      generalize hS0 : sumL (·.f0) L k = S0 at *
      generalize hS1 : sumL (·.f1) L k = S1 at *
      generalize hS2 : sumL (·.f2) L k = S2 at *
      have HS0 := Lib.hid hS0
      have HS1 := Lib.hid hS1
      have HS2 := Lib.hid hS2
      clear hS0 hS1 hS2
      go_wp2_with (go_at_call 48; refine (impl_over S0 S1 S2 k _ ⟨by omega, by omega⟩ ⟨by omega, by omega⟩ ⟨by omega, by omega⟩).mono ?_; rintro e wn ⟨rfl, hbn⟩; obtain ⟨X, nX, rfl⟩ := Below.ext hbn; clear hbn)
      exact bodyPost_ret (v := vecV (fdivI S0 k) (fdivI S1 k) (fdivI S2 k)) (by simp [results, Try.results66, go_sem, y0', r0, r1, r2]) rfl ⟨by rw [meanL, HS0.out, HS1.out, HS2.out], Below.trans HBEL.out (by repeat (first | exact Below.refl _ _ | refine Below.drew ?_ | refine Below.alloc ?_ (by first | exact Nat.le_refl _ | (simp; done) | (simp; omega) | omega) _ | refine Below.more ?_ (by first | exact Nat.le_refl _ | (simp; done) | (simp; omega) | omega) _ _ | refine Below.setCell ?_ (by first | exact Nat.le_refl _ | (simp; done) | (simp; omega) | omega) _ | assumption))⟩
set_option maxRecDepth 100000 in
set_option maxHeartbeats 2000000 in
theorem average_c (a : Option Addr) (cap : Nat) (L : List VecD) (n : Nat) (w : World) (hf : VecsB L n) (hn : n ≤ 1000) (hr : Sl w a 3 n (VecD.at L)) :
    Calls Try.prog 49 #[.slice a n cap] w fun e w' => e = .returned (meanL L n n) ∧ Below w.heap.size w w' := by
  have HR := Lib.hid hr
  have HFV := Lib.hid hf
  clear hr hf
  have HE := Lib.hid (show meanL L n n = vecV (fdivI (sumL (·.f0) L n) n) (fdivI (sumL (·.f1) L n) n) (fdivI (sumL (·.f2) L n) n) from rfl)
  have HW := Lib.hid (fun W (h : Sl W a 3 n (VecD.at L)) => weightedV_c a cap L n W HFV.out hn h)
  rw [HE.out] at HW ⊢
  generalize fdivI (sumL (·.f0) L n) n = S0 at *
  generalize fdivI (sumL (·.f1) L n) n = S1 at *
  generalize fdivI (sumL (·.f2) L n) n = S2 at *
  go_enter Try.func49, Try.ntmps49
  go_wp2_with (go_at_call 66; refine (HW.out _ (HR.out.below (by repeat (first | exact Below.refl _ _ | refine Below.drew ?_ | refine Below.alloc ?_ (by first | exact Nat.le_refl _ | (simp; done) | (simp; omega) | omega) _ | refine Below.more ?_ (by first | exact Nat.le_refl _ | (simp; done) | (simp; omega) | omega) _ _ | refine Below.setCell ?_ (by first | exact Nat.le_refl _ | (simp; done) | (simp; omega) | omega) _ | assumption)))).mono ?_; rintro e wn ⟨rfl, hbn⟩; obtain ⟨X, nX, rfl⟩ := Below.ext hbn; clear hbn)
  exact bodyPost_ret (v := vecV S0 S1 S2) (by simp [results, Try.results49, go_sem]) rfl ⟨rfl, (by repeat (first | exact Below.refl _ _ | refine Below.drew ?_ | refine Below.alloc ?_ (by first | exact Nat.le_refl _ | (simp; done) | (simp; omega) | omega) _ | refine Below.more ?_ (by first | exact Nat.le_refl _ | (simp; done) | (simp; omega) | omega) _ _ | refine Below.setCell ?_ (by first | exact Nat.le_refl _ | (simp; done) | (simp; omega) | omega) _ | assumption))⟩
end Go.Proofs.Ytpfmcobkfofbjaa
namespace Go.Proofs.Ytpfmcobkfofbjaa
open Go Go.RowKit
def vtx (p : MeshD) (x : Int) : VecD := p.verts.getD x.toNat default
def fpD (p : MeshD) (x : Int) : VecD := ⟨fdivI (sumTo p.verts (·.f0) (faceAt p.faces x.toNat) 4) 4, fdivI (sumTo p.verts (·.f1) (faceAt p.faces x.toNat) 4) 4, fdivI (sumTo p.verts (·.f2) (faceAt p.faces x.toNat) 4) 4⟩
def epL (p : MeshD) (x y : Int) (on : List Int) : List VecD := [vtx p x, vtx p y] ++ (if on.length = 2 then [fpD p (on.getD 0 0), fpD p (on.getD 1 0)] else [])
def epV (p : MeshD) (x y : Int) (on : List Int) : Value := meanL (epL p x y on) (epL p x y on).length (epL p x y on).length
theorem sumL_full (g : VecD → Int) (L : List VecD) : sumL g L L.length = (L.map g).sum := by
  unfold sumL
  congr 1
  refine List.ext_getElem (by simp) fun i h1 h2 => ?_
  have h3 : i < L.length := by simpa using h2
  simp [List.getD_eq_getElem?_getD, List.getElem?_eq_getElem h3]
theorem epV_swap (p : MeshD) (x y : Int) (on : List Int) : epV p x y on = epV p y x on := by
  have hl : (epL p x y on).length = (epL p y x on).length := by simp [epL]
  unfold epV meanL
  rw [hl]
  have hs : ∀ g : VecD → Int, sumL g (epL p x y on) (epL p y x on).length = sumL g (epL p y x on) (epL p y x on).length := fun g => by
    rw [← hl, sumL_full, hl, sumL_full]
    simp only [epL, List.map_append, List.map_cons, List.map_nil, List.sum_append, List.sum_cons, List.sum_nil]
    omega
  rw [hs, hs, hs]
noncomputable def epR (p : MeshD) (a b : Int) : Value := if (efacesD p a b).length = 0 then vecV 0 0 0 else epV p a b (efacesD p a b)
theorem mem_hits {s : List (List Int)} {e : Int × Int} {k : Nat} {z : Int} (h : z ∈ hitsTo s e k) : ∃ i j : Nat, i < k ∧ j < 4 ∧ z = (i : Int) ∧ und (stepAt (faceAt s i) j) = e := by
  simp only [hitsTo, List.mem_flatten, List.mem_map, List.mem_range] at h
  obtain ⟨l, ⟨i, hi, rfl⟩, hz⟩ := h
  simp only [stepHits, List.mem_map, List.mem_filter, List.mem_range, decide_eq_true_eq] at hz
  obtain ⟨j, ⟨hj, he⟩, rfl⟩ := hz
  exact ⟨i, j, hi, hj, rfl, he⟩
/-- What faces of an edge tell of it. -/
structure OnEdge (p : MeshD) (a b : Int) (on : List Int) : Prop where
  ok : meshOk p
  a0 : 0 ≤ a ∧ a < (p.nV : Int)
  b0 : 0 ≤ b ∧ b < (p.nV : Int)
  on : ∀ z ∈ on, 0 ≤ z ∧ z < (p.nF : Int)
theorem OnEdge.swap {p : MeshD} {a b : Int} {on : List Int} (h : OnEdge p a b on) : OnEdge p b a on := ⟨h.ok, h.b0, h.a0, h.on⟩
theorem step_in {nV : Nat} {f : List Int} (h : faceOk nV f) {j : Nat} (hj : j < 4) : (0 ≤ (stepAt f j).1 ∧ (stepAt f j).1 < (nV : Int)) ∧ 0 ≤ (stepAt f j).2 ∧ (stepAt f j).2 < (nV : Int) := by
  obtain ⟨h4, hA, _⟩ := h
  have h1 := hA j (by omega)
  have h2 := hA ((j + 1) % f.length) (Nat.mod_lt _ (by omega))
  simp only [stepAt]
  omega
theorem onEdge_of {p : MeshD} {a b : Int} (h : ¬ (efacesD p a b).length = 0) : OnEdge p a b (efacesD p a b) := by
  unfold efacesD at h ⊢
  split at h
  · rename_i hok
    have hm := meshOkB_true.1 hok
    rw [if_pos hok]
    obtain ⟨z, hz⟩ := List.exists_mem_of_length_pos (by omega : 0 < (hitsTo p.faces (und (a, b)) p.nF).length)
    obtain ⟨i, j, hi, hj, _, he⟩ := mem_hits hz
    have hs := step_in (hm.2.2.2.1 i hi) hj
    have hu := (und_iff (stepAt (faceAt p.faces i) j).1 (stepAt (faceAt p.faces i) j).2 a b).1 he
    refine ⟨hm, ?_, ?_, fun z hz => ?_⟩
    · rcases hu with ⟨h1, h2⟩ | ⟨h1, h2⟩ <;> omega
    · rcases hu with ⟨h1, h2⟩ | ⟨h1, h2⟩ <;> omega
    · obtain ⟨i, j, hi, hj, rfl, _⟩ := mem_hits hz
      omega
  · exact absurd rfl h
theorem vtx_B {p : MeshD} (h : meshOk p) {x : Int} (hx : 0 ≤ x ∧ x < (p.nV : Int)) : VecB (vtx p x) := by
  have := h.2.2.1 x.toNat (by omega)
  simp only [vecOkD, vecOk, Bool.and_eq_true, inB_true] at this
  exact ⟨by unfold vtx; omega, by unfold vtx; omega, by unfold vtx; omega⟩
theorem fdiv4_B {s : Int} (h : -4000000 ≤ s ∧ s ≤ 4000000) : -1000000 ≤ fdivI s 4 ∧ fdivI s 4 ≤ 1000000 := by
  unfold fdivI
  split <;> omega
theorem fpD_in {p : MeshD} (h : meshOk p) {x : Int} (hx : 0 ≤ x ∧ x < (p.nF : Int)) : (-1000000 ≤ (fpD p x).f0 ∧ (fpD p x).f0 ≤ 1000000) ∧ (-1000000 ≤ (fpD p x).f1 ∧ (fpD p x).f1 ≤ 1000000) ∧ (-1000000 ≤ (fpD p x).f2 ∧ (fpD p x).f2 ≤ 1000000) := by
  have hf := faceV_of h (k := x.toNat) (by omega)
  exact ⟨fdiv4_B (sum_in (j := 4) (by omega) hf.b0), fdiv4_B (sum_in (j := 4) (by omega) hf.b1), fdiv4_B (sum_in (j := 4) (by omega) hf.b2)⟩
theorem fpD_B {p : MeshD} (h : meshOk p) {x : Int} (hx : 0 ≤ x ∧ x < (p.nF : Int)) : VecB (fpD p x) := by
  obtain ⟨h0, h1, h2⟩ := fpD_in h hx
  exact ⟨by omega, by omega, by omega⟩
theorem fpV_D (p : MeshD) (x : Int) : fpV p.verts (faceAt p.faces x.toNat) = vecV (fpD p x).f0 (fpD p x).f1 (fpD p x).f2 := rfl
theorem two_B {x y : VecD} (hx : VecB x) (hy : VecB y) : VecsB [x, y] 2 := fun i hi => by
  match i, hi with
  | 0, _ => exact hx
  | 1, _ => exact hy
theorem four_B {x y z u : VecD} (hx : VecB x) (hy : VecB y) (hz : VecB z) (hu : VecB u) : VecsB [x, y, z, u] 4 := fun i hi => by
  match i, hi with
  | 0, _ => exact hx
  | 1, _ => exact hy
  | 2, _ => exact hz
  | 3, _ => exact hu
theorem at_two {x y : VecD} : ∀ i, i < 2 → ∀ j, j < 3 → [Value.int .i64 x.f0, .int .i64 x.f1, .int .i64 x.f2, .int .i64 y.f0, .int .i64 y.f1, .int .i64 y.f2][i * 3 + j]? = (VecD.at [x, y] i)[j]? := by
  intro i hi j hj
  match i, j, hi, hj with
  | 0, 0, _, _ => rfl
  | 0, 1, _, _ => rfl
  | 0, 2, _, _ => rfl
  | 1, 0, _, _ => rfl
  | 1, 1, _, _ => rfl
  | 1, 2, _, _ => rfl
theorem at_four {x y z u : VecD} : ∀ i, i < 4 → ∀ j, j < 3 → ([Value.int .i64 x.f0, .int .i64 x.f1, .int .i64 x.f2, .int .i64 y.f0, .int .i64 y.f1, .int .i64 y.f2] ++ [Value.int .i64 z.f0, .int .i64 z.f1, .int .i64 z.f2, .int .i64 u.f0, .int .i64 u.f1, .int .i64 u.f2])[i * 3 + j]? = (VecD.at [x, y, z, u] i)[j]? := by
  intro i hi j hj
  match i, j, hi, hj with
  | 0, 0, _, _ => rfl
  | 0, 1, _, _ => rfl
  | 0, 2, _, _ => rfl
  | 1, 0, _, _ => rfl
  | 1, 1, _, _ => rfl
  | 1, 2, _, _ => rfl
  | 2, 0, _, _ => rfl
  | 2, 1, _, _ => rfl
  | 2, 2, _, _ => rfl
  | 3, 0, _, _ => rfl
  | 3, 1, _, _ => rfl
  | 3, 2, _, _ => rfl
theorem own_two (W : World) (x y : VecD) (base : Nat) (hb : base ≤ W.heap.size) : (W.alloc (.cells #[.int .i64 x.f0, .int .i64 x.f1, .int .i64 x.f2, .int .i64 y.f0, .int .i64 y.f1, .int .i64 y.f2] 29)).ownsRow base 29 3 (.slice (some ⟨W.heap.size, 0, none⟩) 2 2) 2 [.int .i64 x.f0, .int .i64 x.f1, .int .i64 x.f2, .int .i64 y.f0, .int .i64 y.f1, .int .i64 y.f2] :=
  ⟨rfl, .inr ⟨W.heap.size, 2, _, rfl, hb, heap_alloc_new _ _, Nat.le_refl _, by decide, rfl, rfl⟩⟩
theorem sl_of_own {w : World} {base n : Nat} {e : TypeId} {v : Value} {xs : List Value} {L : List VecD} (h : w.ownsRow base e 3 v n xs) (hC : ∀ i, i < n → ∀ j, j < 3 → xs[i * 3 + j]? = (VecD.at L i)[j]?) : ∃ a cap, v = .slice a n cap ∧ Sl w a 3 n (VecD.at L) := by
  obtain ⟨a, cap, rfl, ho⟩ := ow_of_ownsRow h hC
  exact ⟨a, cap, rfl, ho.sl⟩
theorem info_VecA : (Try.prog.info? 29).map (fun i => (i.zero, i.size, i.bytes)) = some (some (.agg #[.int .i64 0, .int .i64 0, .int .i64 0]), 3, 24) := by kernel_rfl
set_option maxRecDepth 100000 in
set_option maxHeartbeats 2000000 in
theorem impl_edgePoint_c (v : Value) (p : MeshD) (x y : Int) (fa : Option Addr) (fc : Nat) (on : List Int) (w : World) (hr : MeshR w v p) (hs : MeshSz 1048576 p) (hon : OnEdge p x y on) (hf : Sl w fa 1 on.length (intAt on)) :
    Calls Try.prog 23 #[v, .agg #[.int .i64 x, .int .i64 y], .slice fa on.length fc] w fun e w' => e = .returned (epV p x y on) ∧ Below w.heap.size w w' := by
  have HFC := Lib.hid (fun (z : Int) (hz : 0 ≤ z ∧ z < (p.nF : Int)) W (h : Below w.heap.size w W) => facePoint_c v p z.toNat W (hr.below h) hs hon.ok (by omega))
  obtain ⟨a, c, a', c', rfl, h1, _⟩ := hr
  obtain ⟨ix, rfl⟩ := Int.eq_ofNat_of_zero_le hon.a0.1
  obtain ⟨iy, rfl⟩ := Int.eq_ofNat_of_zero_le hon.b0.1
  have hx1 := hon.a0.2
  have hy1 := hon.b0.2
  have hx0 : ix < p.nV := by omega
  have hy0 : iy < p.nV := by omega
  have hB1 := vtx_B hon.ok hon.a0
  have hB2 := vtx_B hon.ok hon.b0
  obtain ⟨b, o, rfl, hb, hc⟩ := h1 (by omega)
  have c0 : w.cell? ⟨b, o + ix * 3, none⟩ = some (.int .i64 (vtx p ix).f0) := hc ix hx0 0 (by omega)
  have c1 : w.cell? ⟨b, o + ix * 3 + 1, none⟩ = some (.int .i64 (vtx p ix).f1) := hc ix hx0 1 (by omega)
  have c2 : w.cell? ⟨b, o + ix * 3 + 2, none⟩ = some (.int .i64 (vtx p ix).f2) := hc ix hx0 2 (by omega)
  have d0 : w.cell? ⟨b, o + iy * 3, none⟩ = some (.int .i64 (vtx p iy).f0) := hc iy hy0 0 (by omega)
  have d1 : w.cell? ⟨b, o + iy * 3 + 1, none⟩ = some (.int .i64 (vtx p iy).f1) := hc iy hy0 1 (by omega)
  have d2 : w.cell? ⟨b, o + iy * 3 + 2, none⟩ = some (.int .i64 (vtx p iy).f2) := hc iy hy0 2 (by omega)
  have hb1 : b < w.heap.size + 1 := by omega
  have hb2 : b < w.heap.size + 1 + 1 := by omega
  have hb3 : b < w.heap.size + 1 + 1 + 1 := by omega
  clear hc h1 hs
  have HF := Lib.hid hf
  clear hf
  by_cases h2 : on.length = 2
  · have hq1 : ((on.length : Int) == 2) = true := by simp; omega
    obtain ⟨z, u, rfl⟩ : ∃ z u, on = [z, u] := by
      match on, h2 with
      | [z, u], _ => exact ⟨z, u, rfl⟩
    have hz := hon.on z (by simp)
    have hu := hon.on u (by simp)
    have hB3 := fpD_B hon.ok hz
    have hB4 := fpD_B hon.ok hu
    have HE := Lib.hid (show epV p ix iy [z, u] = meanL [vtx p ix, vtx p iy, fpD p z, fpD p u] 4 4 from rfl)
    have HZ := Lib.hid (HFC.out z hz)
    have HU := Lib.hid (HFC.out u hu)
    have e1 : ((z.toNat : Nat) : Int) = z := by omega
    have e2 : ((u.toNat : Nat) : Int) = u := by omega
    rw [fpV_D, e1] at HZ
    rw [fpV_D, e2] at HU
    clear HFC hz hu e1 e2
    obtain ⟨fb, fo, rfl, hfb, hfc⟩ := HF.out (by simp)
    have f0 : w.cell? ⟨fb, fo, none⟩ = some (.int .i64 z) := by simpa [intAt] using hfc 0 (by simp) 0 (by omega)
    have f1 : w.cell? ⟨fb, fo + 1, none⟩ = some (.int .i64 u) := by simpa [intAt] using hfc 1 (by simp) 0 (by omega)
    have hfb1 : fb < w.heap.size + 1 := by omega
    have hfb2 : fb < w.heap.size + 1 + 1 := by omega
    have hfb3 : fb < w.heap.size + 1 + 1 + 1 := by omega
    clear hfc HF hon h2
    have HB := Lib.hid (four_B hB1 hB2 hB3 hB4)
    clear hB1 hB2 hB3 hB4
    have HAT := Lib.hid (at_four (x := vtx p ix) (y := vtx p iy) (z := fpD p z) (u := fpD p u))
    have HAV := Lib.hid (fun a cap W h => average_c a cap [vtx p ix, vtx p iy, fpD p z, fpD p u] 4 W HB.out (by omega) h)
    have HTW := Lib.hid (fun W bs h => own_two W (vtx p ix) (vtx p iy) bs h)
    rw [← HE.out] at HAV
    obtain ⟨R0, R1, R2, hRV⟩ : ∃ A B C, epV p ix iy [z, u] = vecV A B C := ⟨_, _, _, rfl⟩
    rw [hRV] at HAV ⊢
    clear HE hRV
    generalize vtx p ix = vx at *
    generalize vtx p iy = vy at *
    generalize fpD p z = vz at *
    generalize fpD p u = vu at *
    obtain ⟨x0, x1, x2⟩ := vx
    obtain ⟨y0, y1, y2⟩ := vy
    obtain ⟨z0, z1, z2⟩ := vz
    obtain ⟨u0, u1, u2⟩ := vu
    dsimp only at c0 c1 c2 d0 d1 d2 HZ HU HAT HTW
    obtain ⟨i0, hi, hz0, hz1, hz2⟩ := info_parts info_VecA
    go_enter Try.func23, Try.ntmps23
    go_wp2
    ((first | refine region_qt2 12 (by kernel_rfl) (by kernel_rfl) ?_ | refine region_qt 12 (by kernel_rfl) (by kernel_rfl) ?_); simp only [List.take_succ_cons, List.take_zero, List.drop_succ_cons, List.drop_zero])
    repeat (quiet_step (fail))
    (refine wpQuiet_nil ?_; intro X nX)
    go_wp2
    have HBW := Lib.hid (show Below w.heap.size w (((w.alloc (.cells #[.slice (some ⟨b, o, none⟩) p.nV c, .slice a' p.nF c'] 26)).alloc (.cells #[.int .i64 ix, .int .i64 iy] 55)).alloc (.cells #[.int .i64 0, .int .i64 0, .int .i64 0] 29)) from (by repeat (first | exact Below.refl _ _ | refine Below.drew ?_ | refine Below.alloc ?_ (by first | exact Nat.le_refl _ | (simp; done) | (simp; omega) | omega) _ | refine Below.more ?_ (by first | exact Nat.le_refl _ | (simp; done) | (simp; omega) | omega) _ _ | refine Below.setCell ?_ (by first | exact Nat.le_refl _ | (simp; done) | (simp; omega) | omega) _ | assumption)))
    have q0 : (((w.alloc (.cells #[.slice (some ⟨b, o, none⟩) p.nV c, .slice a' p.nF c'] 26)).alloc (.cells #[.int .i64 ix, .int .i64 iy] 55)).alloc (.cells #[.int .i64 0, .int .i64 0, .int .i64 0] 29)).cell? ⟨w.heap.size, 0, none⟩ = some (.slice (some ⟨b, o, none⟩) p.nV c) := by simp [go_sem]
    have q1 : (((w.alloc (.cells #[.slice (some ⟨b, o, none⟩) p.nV c, .slice a' p.nF c'] 26)).alloc (.cells #[.int .i64 ix, .int .i64 iy] 55)).alloc (.cells #[.int .i64 0, .int .i64 0, .int .i64 0] 29)).cell? ⟨w.heap.size, 1, none⟩ = some (.slice a' p.nF c') := by simp [go_sem]
    have r0 : ∀ j, j < 3 → (((w.alloc (.cells #[.slice (some ⟨b, o, none⟩) p.nV c, .slice a' p.nF c'] 26)).alloc (.cells #[.int .i64 ix, .int .i64 iy] 55)).alloc (.cells #[.int .i64 0, .int .i64 0, .int .i64 0] 29)).cell? ⟨w.heap.size + 1 + 1, j, none⟩ = some (.int .i64 0) ∧ (((w.alloc (.cells #[.slice (some ⟨b, o, none⟩) p.nV c, .slice a' p.nF c'] 26)).alloc (.cells #[.int .i64 ix, .int .i64 iy] 55)).alloc (.cells #[.int .i64 0, .int .i64 0, .int .i64 0] 29)).frozen? ⟨w.heap.size + 1 + 1, j, none⟩ = false := fun j hj => by
      match j, hj with
      | 0, _ => simp [go_sem]
      | 1, _ => simp [go_sem]
      | 2, _ => simp [go_sem]
    have hsz : (((w.alloc (.cells #[.slice (some ⟨b, o, none⟩) p.nV c, .slice a' p.nF c'] 26)).alloc (.cells #[.int .i64 ix, .int .i64 iy] 55)).alloc (.cells #[.int .i64 0, .int .i64 0, .int .i64 0] 29)).heap.size = w.heap.size + 1 + 1 + 1 := by simp
    have HOW := Lib.hid (HTW.out (more (((w.alloc (.cells #[.slice (some ⟨b, o, none⟩) p.nV c, .slice a' p.nF c'] 26)).alloc (.cells #[.int .i64 ix, .int .i64 iy] 55)).alloc (.cells #[.int .i64 0, .int .i64 0, .int .i64 0] 29)) X nX) (((w.alloc (.cells #[.slice (some ⟨b, o, none⟩) p.nV c, .slice a' p.nF c'] 26)).alloc (.cells #[.int .i64 ix, .int .i64 iy] 55)).alloc (.cells #[.int .i64 0, .int .i64 0, .int .i64 0] 29)).heap.size (by simp))
    have hsz2 : (more (((w.alloc (.cells #[.slice (some ⟨b, o, none⟩) p.nV c, .slice a' p.nF c'] 26)).alloc (.cells #[.int .i64 ix, .int .i64 iy] 55)).alloc (.cells #[.int .i64 0, .int .i64 0, .int .i64 0] 29)) X nX).heap.size = w.heap.size + 1 + 1 + 1 + X.size := by simp
    rw [hsz2, more_alloc] at HOW
    rw [more_alloc]
    clear HTW hsz2
    generalize w.heap.size + 1 + 1 + 1 + X.size = g at *
    generalize X.push (.cells #[.int .i64 x0, .int .i64 x1, .int .i64 x2, .int .i64 y0, .int .i64 y1, .int .i64 y2] 29) = X0 at *
    generalize (((w.alloc (.cells #[.slice (some ⟨b, o, none⟩) p.nV c, .slice a' p.nF c'] 26)).alloc (.cells #[.int .i64 ix, .int .i64 iy] 55)).alloc (.cells #[.int .i64 0, .int .i64 0, .int .i64 0] 29)) = W3 at *
    have g0 := cell_below HBW.out f0
    have g1 := cell_below HBW.out f1
    have w0 : w.heap.size < W3.heap.size := by omega
    have w1 : fb < W3.heap.size := by omega
    have y1 : w.heap.size + 1 + 1 < W3.heap.size := by omega
    refine region_app2 11 29 3 _ 2 2 _ [.int .i64 z0, .int .i64 z1, .int .i64 z2, .int .i64 u0, .int .i64 u1, .int .i64 u2] (by kernel_rfl) (by kernel_rfl) HOW.out ?_
    simp only [List.take_succ_cons, List.take_zero, List.drop_succ_cons, List.drop_zero]
    repeat (refine headS_step (fun K hK => ?_); go_simp; refine hK _ ?_; clear hK K)
    (refine headS_step (fun K hK => ?_); go_simp; refine ⟨_, fun zt => calls_stays (HZ.out _ (HBW.out.trans (by repeat (first | exact Below.refl _ _ | refine Below.drew ?_ | refine Below.alloc ?_ (by first | exact Nat.le_refl _ | (simp; done) | (simp; omega) | omega) _ | refine Below.more ?_ (by first | exact Nat.le_refl _ | (simp; done) | (simp; omega) | omega) _ _ | refine Below.setCell ?_ (by first | exact Nat.le_refl _ | (simp; done) | (simp; omega) | omega) _ | assumption)))), hK _ ?_⟩; clear hK K)
    repeat (refine headS_step (fun K hK => ?_); go_simp; refine hK _ ?_; clear hK K)
    (refine headS_step (fun K hK => ?_); go_simp; refine ⟨_, fun zt => calls_stays (HU.out _ (HBW.out.trans (by repeat (first | exact Below.refl _ _ | refine Below.drew ?_ | refine Below.alloc ?_ (by first | exact Nat.le_refl _ | (simp; done) | (simp; omega) | omega) _ | refine Below.more ?_ (by first | exact Nat.le_refl _ | (simp; done) | (simp; omega) | omega) _ _ | refine Below.setCell ?_ (by first | exact Nat.le_refl _ | (simp; done) | (simp; omega) | omega) _ | assumption)))), hK _ ?_⟩; clear hK K)
    repeat (refine headS_step (fun K hK => ?_); go_simp; refine hK _ ?_; clear hK K)
    refine headS_nil ?_
    refine tail_app2 (t := 23) _ _ (by go_simp) (fun w => by go_simp) (fun b => by go_simp) rfl Try.underlying23 hi hz0 hz1 hz2 rfl (by decide) (fun b => by first | rfl | go_simp) (fun b => by first | rfl | go_simp) rfl ?h1 (by decide) (by decide) (fun b v' => ?hr)
    case h1 =>
      intro u hu
      simp only [List.mem_cons, List.not_mem_nil, or_false] at hu
      rcases hu with rfl | rfl | rfl | rfl | rfl | rfl <;> rfl
    refine app2_quiet (u := v') (by go_simp) (fun w => by go_simp) ?_
    refine app2_done (fun X1 d1 hown1 => ?_)
    simp only [Act.put, List.setIfInBounds_toArray, List.set_cons_zero, List.set_cons_succ]
    obtain ⟨a4, c4, rfl, hsl⟩ := sl_of_own hown1 HAT.out
    have HSL := Lib.hid hsl
    obtain ⟨s0, t0⟩ := r0 0 (by omega)
    obtain ⟨s1, t1⟩ := r0 1 (by omega)
    obtain ⟨s2, t2⟩ := r0 2 (by omega)
    clear hown1 hsl r0 q0 q1 g0 g1
    go_wp2_with (go_at_call 49; refine (HAV.out _ _ _ (HSL.out.below (by repeat (first | exact Below.refl _ _ | refine Below.drew ?_ | refine Below.alloc ?_ (by first | exact Nat.le_refl _ | (simp; done) | (simp; omega) | omega) _ | refine Below.more ?_ (by first | exact Nat.le_refl _ | (simp; done) | (simp; omega) | omega) _ _ | refine Below.setCell ?_ (by first | exact Nat.le_refl _ | (simp; done) | (simp; omega) | omega) _ | assumption)))).mono ?_; rintro e wn ⟨rfl, hbn⟩; obtain ⟨X, nX, rfl⟩ := Below.ext hbn; clear hbn)
    exact bodyPost_ret (v := vecV R0 R1 R2) (by simp [results, Try.results23, go_sem, s0, s1, s2, y1]) rfl ⟨rfl, Below.trans HBW.out (by repeat (first | exact Below.refl _ _ | refine Below.drew ?_ | refine Below.alloc ?_ (by first | exact Nat.le_refl _ | (simp; done) | (simp; omega) | omega) _ | refine Below.more ?_ (by first | exact Nat.le_refl _ | (simp; done) | (simp; omega) | omega) _ _ | refine Below.setCell ?_ (by first | exact Nat.le_refl _ | (simp; done) | (simp; omega) | omega) _ | assumption))⟩
  · have hq1 : ((on.length : Int) == 2) = false := by simp; omega
    have HE := Lib.hid (show epV p ix iy on = meanL [vtx p ix, vtx p iy] 2 2 from by simp [epV, epL, h2])
    have HB := Lib.hid (two_B hB1 hB2)
    have HAT := Lib.hid (at_two (x := vtx p ix) (y := vtx p iy))
    have HAV := Lib.hid (fun a cap W h => average_c a cap [vtx p ix, vtx p iy] 2 W HB.out (by omega) h)
    have HTW := Lib.hid (fun W bs h => own_two W (vtx p ix) (vtx p iy) bs h)
    rw [← HE.out] at HAV
    obtain ⟨R0, R1, R2, hRV⟩ : ∃ A B C, epV p ix iy on = vecV A B C := ⟨_, _, _, rfl⟩
    rw [hRV] at HAV ⊢
    clear HE hRV HFC hon HF h2 hB1 hB2
    generalize vtx p ix = vx at *
    generalize vtx p iy = vy at *
    obtain ⟨x0, x1, x2⟩ := vx
    obtain ⟨y0, y1, y2⟩ := vy
    dsimp only at c0 c1 c2 d0 d1 d2 HAT HTW
    generalize on.length = ol at *
    go_enter Try.func23, Try.ntmps23
    go_wp2
    ((first | refine region_qt2 12 (by kernel_rfl) (by kernel_rfl) ?_ | refine region_qt 12 (by kernel_rfl) (by kernel_rfl) ?_); simp only [List.take_succ_cons, List.take_zero, List.drop_succ_cons, List.drop_zero])
    repeat (quiet_step (fail))
    (refine wpQuiet_nil ?_; intro X nX)
    go_wp2_with fail
    have HBW := Lib.hid (show Below w.heap.size w ((more (((w.alloc (.cells #[.slice (some ⟨b, o, none⟩) p.nV c, .slice a' p.nF c'] 26)).alloc (.cells #[.int .i64 ix, .int .i64 iy] 55)).alloc (.cells #[.int .i64 0, .int .i64 0, .int .i64 0] 29)) X nX).alloc (.cells #[.int .i64 x0, .int .i64 x1, .int .i64 x2, .int .i64 y0, .int .i64 y1, .int .i64 y2] 29)) from (by repeat (first | exact Below.refl _ _ | refine Below.drew ?_ | refine Below.alloc ?_ (by first | exact Nat.le_refl _ | (simp; done) | (simp; omega) | omega) _ | refine Below.more ?_ (by first | exact Nat.le_refl _ | (simp; done) | (simp; omega) | omega) _ _ | refine Below.setCell ?_ (by first | exact Nat.le_refl _ | (simp; done) | (simp; omega) | omega) _ | assumption)))
    have q0 : ((more (((w.alloc (.cells #[.slice (some ⟨b, o, none⟩) p.nV c, .slice a' p.nF c'] 26)).alloc (.cells #[.int .i64 ix, .int .i64 iy] 55)).alloc (.cells #[.int .i64 0, .int .i64 0, .int .i64 0] 29)) X nX).alloc (.cells #[.int .i64 x0, .int .i64 x1, .int .i64 x2, .int .i64 y0, .int .i64 y1, .int .i64 y2] 29)).cell? ⟨w.heap.size, 0, none⟩ = some (.slice (some ⟨b, o, none⟩) p.nV c) := by simp [go_sem]
    have q1 : ((more (((w.alloc (.cells #[.slice (some ⟨b, o, none⟩) p.nV c, .slice a' p.nF c'] 26)).alloc (.cells #[.int .i64 ix, .int .i64 iy] 55)).alloc (.cells #[.int .i64 0, .int .i64 0, .int .i64 0] 29)) X nX).alloc (.cells #[.int .i64 x0, .int .i64 x1, .int .i64 x2, .int .i64 y0, .int .i64 y1, .int .i64 y2] 29)).cell? ⟨w.heap.size, 1, none⟩ = some (.slice a' p.nF c') := by simp [go_sem]
    have r0 : ∀ j, j < 3 → ((more (((w.alloc (.cells #[.slice (some ⟨b, o, none⟩) p.nV c, .slice a' p.nF c'] 26)).alloc (.cells #[.int .i64 ix, .int .i64 iy] 55)).alloc (.cells #[.int .i64 0, .int .i64 0, .int .i64 0] 29)) X nX).alloc (.cells #[.int .i64 x0, .int .i64 x1, .int .i64 x2, .int .i64 y0, .int .i64 y1, .int .i64 y2] 29)).cell? ⟨w.heap.size + 1 + 1, j, none⟩ = some (.int .i64 0) ∧ ((more (((w.alloc (.cells #[.slice (some ⟨b, o, none⟩) p.nV c, .slice a' p.nF c'] 26)).alloc (.cells #[.int .i64 ix, .int .i64 iy] 55)).alloc (.cells #[.int .i64 0, .int .i64 0, .int .i64 0] 29)) X nX).alloc (.cells #[.int .i64 x0, .int .i64 x1, .int .i64 x2, .int .i64 y0, .int .i64 y1, .int .i64 y2] 29)).frozen? ⟨w.heap.size + 1 + 1, j, none⟩ = false := fun j hj => by
      match j, hj with
      | 0, _ => simp [go_sem]
      | 1, _ => simp [go_sem]
      | 2, _ => simp [go_sem]
    have HOW := Lib.hid (HTW.out (more (((w.alloc (.cells #[.slice (some ⟨b, o, none⟩) p.nV c, .slice a' p.nF c'] 26)).alloc (.cells #[.int .i64 ix, .int .i64 iy] 55)).alloc (.cells #[.int .i64 0, .int .i64 0, .int .i64 0] 29)) X nX) (w.heap.size + 3) (by simp; try omega))
    have hsz : (more (((w.alloc (.cells #[.slice (some ⟨b, o, none⟩) p.nV c, .slice a' p.nF c'] 26)).alloc (.cells #[.int .i64 ix, .int .i64 iy] 55)).alloc (.cells #[.int .i64 0, .int .i64 0, .int .i64 0] 29)) X nX).heap.size = w.heap.size + 1 + 1 + 1 + X.size := by simp
    rw [hsz] at HOW
    clear HTW hsz
    generalize w.heap.size + 1 + 1 + 1 + X.size = g at *
    generalize ((more (((w.alloc (.cells #[.slice (some ⟨b, o, none⟩) p.nV c, .slice a' p.nF c'] 26)).alloc (.cells #[.int .i64 ix, .int .i64 iy] 55)).alloc (.cells #[.int .i64 0, .int .i64 0, .int .i64 0] 29)) X nX).alloc (.cells #[.int .i64 x0, .int .i64 x1, .int .i64 x2, .int .i64 y0, .int .i64 y1, .int .i64 y2] 29)) = W1 at *
    obtain ⟨a4, c4, hv4, hsl⟩ := sl_of_own HOW.out HAT.out
    simp only [Value.slice.injEq, true_and] at hv4
    obtain ⟨rfl, rfl⟩ := hv4
    have HSL := Lib.hid hsl
    obtain ⟨s0, t0⟩ := r0 0 (by omega)
    obtain ⟨s1, t1⟩ := r0 1 (by omega)
    obtain ⟨s2, t2⟩ := r0 2 (by omega)
    have y1 := World.block_lt_of_cell? _ _ s0
    clear hsl r0 q0 q1
    go_wp2_with (go_at_call 49; refine (HAV.out _ _ _ (HSL.out.below (by repeat (first | exact Below.refl _ _ | refine Below.drew ?_ | refine Below.alloc ?_ (by first | exact Nat.le_refl _ | (simp; done) | (simp; omega) | omega) _ | refine Below.more ?_ (by first | exact Nat.le_refl _ | (simp; done) | (simp; omega) | omega) _ _ | refine Below.setCell ?_ (by first | exact Nat.le_refl _ | (simp; done) | (simp; omega) | omega) _ | assumption)))).mono ?_; rintro e wn ⟨rfl, hbn⟩; obtain ⟨X, nX, rfl⟩ := Below.ext hbn; clear hbn)
    exact bodyPost_ret (v := vecV R0 R1 R2) (by simp [results, Try.results23, go_sem, s0, s1, s2, y1]) rfl ⟨rfl, Below.trans HBW.out (by repeat (first | exact Below.refl _ _ | refine Below.drew ?_ | refine Below.alloc ?_ (by first | exact Nat.le_refl _ | (simp; done) | (simp; omega) | omega) _ | refine Below.more ?_ (by first | exact Nat.le_refl _ | (simp; done) | (simp; omega) | omega) _ _ | refine Below.setCell ?_ (by first | exact Nat.le_refl _ | (simp; done) | (simp; omega) | omega) _ | assumption))⟩
end Go.Proofs.Ytpfmcobkfofbjaa
