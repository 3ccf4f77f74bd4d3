/- Contracts of FacePoint, both sides. -/
import Derived.Test.YtbmhehjllchpoaaGreatFacePoint
import Derived.Test.YtbmhehjllchpoaaGreatValidMeshS
namespace Go.Proofs.YtbmhehjllchpoaaGreat
open Go Go.RowKit
set_option maxRecDepth 100000 in
theorem facePoint_c (v : Value) (p : MeshD) (k : Nat) (w : World) (hr : MeshR w v p) (hs : MeshSz 1048576 p) (hm : meshOk p) (hk : k < p.nF) :
    Calls Tryz.prog 47 #[v, .int .i64 (k : Int)] w fun e w' => e = .returned (fpV p.verts (faceAt p.faces k)) ∧ Below w.heap.size w w' := by
  have HFV := Lib.hid (faceV_of hm hk)
  obtain ⟨a, c, a', c', rfl, h1, ⟨A, K, h2, h3, h4⟩⟩ := hr
  obtain ⟨hs1, hs2, hs3⟩ := hs
  clear hm hs3 h4
  generalize p.nV = n at *
  generalize p.nF = m at *
  generalize p.verts = l at *
  generalize p.faces = s at *
  have hk1 : (k : Int) < (m : Int) := by omega
  obtain ⟨b, o, rfl, hb, hc⟩ := h2 (by omega)
  have c0 : w.cell? ⟨b, o + k, none⟩ = some (.slice (A k) (faceAt s k).length (K k)) := by have := hc k hk 0 (by omega); rw [Nat.mul_one, Nat.add_zero] at this; exact this
  clear hc h2
  have hsl := h3 k hk
  clear h3
  generalize A k = ak at *
  generalize K k = kk at *
  generalize faceAt s k = f at *
  rw [HFV.out.len] at c0 hsl
  have HSL := Lib.hid hsl
  have HV := Lib.hid h1
  clear hsl h1
  go_enter Tryz.func47, Tryz.ntmps47
  go_wp2_with (go_at_call 68; refine (weighted_c ak kk f l n _ c a _ HFV.out (HSL.out.below (by repeat (first | exact Below.refl _ _ | refine Below.drew ?_ | refine Below.alloc ?_ (by first | exact Nat.le_refl _ | (simp; done) | (simp; omega) | omega) _ | refine Below.more ?_ (by first | exact Nat.le_refl _ | (simp; done) | (simp; omega) | omega) _ _ | refine Below.setCell ?_ (by first | exact Nat.le_refl _ | (simp; done) | (simp; omega) | omega) _ | assumption))) (HV.out.below (by repeat (first | exact Below.refl _ _ | refine Below.drew ?_ | refine Below.alloc ?_ (by first | exact Nat.le_refl _ | (simp; done) | (simp; omega) | omega) _ | refine Below.more ?_ (by first | exact Nat.le_refl _ | (simp; done) | (simp; omega) | omega) _ _ | refine Below.setCell ?_ (by first | exact Nat.le_refl _ | (simp; done) | (simp; omega) | omega) _ | assumption))) (by simp [go_sem]) hs1).mono ?_; rintro e wn ⟨rfl, hbn⟩; obtain ⟨X, nX, rfl⟩ := Below.ext hbn; clear hbn)
  exact bodyPost_ret (v := fpV l f) (by simp [results, Tryz.results47, go_sem]) rfl ⟨rfl, (by repeat (first | exact Below.refl _ _ | refine Below.drew ?_ | refine Below.alloc ?_ (by first | exact Nat.le_refl _ | (simp; done) | (simp; omega) | omega) _ | refine Below.more ?_ (by first | exact Nat.le_refl _ | (simp; done) | (simp; omega) | omega) _ _ | refine Below.setCell ?_ (by first | exact Nat.le_refl _ | (simp; done) | (simp; omega) | omega) _ | assumption))⟩
/-- The mean of the vertices of a face, where there is one. -/
def fpOk (p : MeshD) (x : Int) : Prop := meshOk p ∧ 0 ≤ x ∧ x ≤ (p.nF : Int) - 1
open Classical in
noncomputable def fpR (p : MeshD) (x : Int) : Value := if fpOk p x then fpV p.verts (faceAt p.faces x.toNat) else vecV 0 0 0
theorem fpR_yes {p : MeshD} {x : Int} (h : fpOk p x) : fpR p x = fpV p.verts (faceAt p.faces x.toNat) := by rw [fpR, if_pos h]
theorem fpR_no {p : MeshD} {x : Int} (h : ¬ fpOk p x) : fpR p x = vecV 0 0 0 := by rw [fpR, if_neg h]
set_option maxRecDepth 100000 in
theorem l07By_c (x y z n : Int) (w : World) (hx : In64 x) (hy : In64 y) (hz : In64 z) :
    Calls Tryz.prog 15 #[vecV x y z, .int .i64 n] w fun e w' => e = .returned (vecV (fdivI x n) (fdivI y n) (fdivI z n)) ∧ Below w.heap.size w w' := by
  go_enter Tryz.func15, Tryz.ntmps15
  go_wp2
  ((first | refine region_qt2 12 (by kernel_rfl) (by kernel_rfl) ?_ | refine region_qt 12 (by kernel_rfl) (by kernel_rfl) ?_); simp only [List.take_succ_cons, List.take_zero, List.drop_succ_cons, List.drop_zero])
  repeat (quiet_step (fail))
  (refine wpQuiet_step (fun K hK => ?_); go_simp; refine ⟨_, fun zt => ext_same (spec_FloorDiv x n _ hx.1 hx.2), hK _ ?_⟩; clear hK K)
  repeat (quiet_step (fail))
  (refine wpQuiet_step (fun K hK => ?_); go_simp; refine ⟨_, fun zt => ext_same (spec_FloorDiv y n _ hy.1 hy.2), hK _ ?_⟩; clear hK K)
  repeat (quiet_step (fail))
  (refine wpQuiet_step (fun K hK => ?_); go_simp; refine ⟨_, fun zt => ext_same (spec_FloorDiv z n _ hz.1 hz.2), hK _ ?_⟩; clear hK K)
  repeat (quiet_step (fail))
  (refine wpQuiet_nil ?_; intro X nX)
  go_wp2
  exact bodyPost_ret (v := vecV (fdivI x n) (fdivI y n) (fdivI z n)) (by simp [results, Tryz.results15, go_sem]) rfl ⟨rfl, (by repeat (first | exact Below.refl _ _ | refine Below.drew ?_ | refine Below.alloc ?_ (by first | exact Nat.le_refl _ | (simp; done) | (simp; omega) | omega) _ | refine Below.more ?_ (by first | exact Nat.le_refl _ | (simp; done) | (simp; omega) | omega) _ _ | refine Below.setCell ?_ (by first | exact Nat.le_refl _ | (simp; done) | (simp; omega) | omega) _ | assumption))⟩
set_option maxRecDepth 100000 in
set_option maxHeartbeats 2000000 in
theorem l07Sum_c (a : Option Addr) (cap : Nat) (l : List VecD) (f : List Int) (n : Nat) (w : World) (hf : FaceV l n f) (hr : Sl w a 3 4 (fun j => (l.getD (f.getD j 0).toNat default).cells)) :
    Calls Tryz.prog 16 #[.slice a 4 cap] w fun e w' => e = .returned (vecV (sumTo l (·.f0) f 4) (sumTo l (·.f1) f 4) (sumTo l (·.f2) f 4)) ∧ Below w.heap.size w w' := by
  have HR := Lib.hid hr
  have HFV := Lib.hid hf
  clear hr hf
  go_enter Tryz.func16, Tryz.ntmps16
  go_wp2
  go_loopw [9] (fun i wr => ∃ (k : Nat), k ≤ 4 ∧ i = .int .i64 k ∧ Below w.heap.size w wr ∧ wr.cell? ⟨w.heap.size + 1, 0, none⟩ = some (.int .i64 (sumTo l (·.f0) f k)) ∧ wr.cell? ⟨w.heap.size + 1, 1, none⟩ = some (.int .i64 (sumTo l (·.f1) f k)) ∧ wr.cell? ⟨w.heap.size + 1, 2, none⟩ = some (.int .i64 (sumTo l (·.f2) f k)) ∧ wr.frozen? ⟨w.heap.size + 1, 0, none⟩ = false ∧ wr.frozen? ⟨w.heap.size + 1, 1, none⟩ = false ∧ wr.frozen? ⟨w.heap.size + 1, 2, none⟩ = false ∧ wr.cell? ⟨w.heap.size, 0, none⟩ = some (.int .i64 0) ∧ wr.frozen? ⟨w.heap.size, 0, none⟩ = false ∧ wr.cell? ⟨w.heap.size, 1, none⟩ = some (.int .i64 0) ∧ wr.frozen? ⟨w.heap.size, 1, none⟩ = false ∧ wr.cell? ⟨w.heap.size, 2, none⟩ = some (.int .i64 0) ∧ wr.frozen? ⟨w.heap.size, 2, none⟩ = false) (fun i _ => 4 - (intOf i).toNat)
  case atStart => exact ⟨0, by omega, rfl, (by repeat (first | exact Below.refl _ _ | refine Below.drew ?_ | refine Below.alloc ?_ (by first | exact Nat.le_refl _ | (simp; done) | (simp; omega) | omega) _ | refine Below.more ?_ (by first | exact Nat.le_refl _ | (simp; done) | (simp; omega) | omega) _ _ | refine Below.setCell ?_ (by first | exact Nat.le_refl _ | (simp; done) | (simp; omega) | omega) _ | assumption)), by simp [go_sem, sumTo], by simp [go_sem, sumTo], by simp [go_sem, sumTo], by simp [go_sem], by simp [go_sem], by simp [go_sem], by simp [go_sem], by simp [go_sem], by simp [go_sem], by simp [go_sem], by simp [go_sem], by simp [go_sem]⟩
  case round =>
    obtain ⟨k, hk, rfl, hbel, s0, s1, s2, z0, z1, z2, r0, x0, r1, x1, r2, x2⟩ := hrel
    have y0' : w.heap.size < wr.heap.size := World.block_lt_of_cell? _ _ r0
    have Y2 : ∀ n, w.heap.size < wr.heap.size + n := fun n => by omega
    have Y3 : ∀ n m, w.heap.size < wr.heap.size + n + m := fun n m => by omega
    have HBEL := Lib.hid hbel
    have y1 : w.heap.size + 1 < wr.heap.size := World.block_lt_of_cell? _ _ s0
    have y2 : ∀ n, w.heap.size + 1 < wr.heap.size + n := fun n => by omega
    have y3 : ∀ n m, w.heap.size + 1 < wr.heap.size + n + m := fun n m => by omega
    clear hbel
    by_cases hlt : k < 4
    · have hk1 : (k : Int) < 4 := by omega
      obtain ⟨b, o, e, hb, hc⟩ := HR.out.below HBEL.out (by omega)
      subst e
      have d0 : wr.cell? ⟨b, o + k * 3, none⟩ = some (.int .i64 (l.getD (f.getD k 0).toNat default).f0) := hc k hlt 0 (by omega)
      have d1 : wr.cell? ⟨b, o + k * 3 + 1, none⟩ = some (.int .i64 (l.getD (f.getD k 0).toNat default).f1) := hc k hlt 1 (by omega)
      have d2 : wr.cell? ⟨b, o + k * 3 + 2, none⟩ = some (.int .i64 (l.getD (f.getD k 0).toNat default).f2) := hc k hlt 2 (by omega)
      clear hc
      have e0 := HFV.out.b0 k hlt
      have e1 := HFV.out.b1 k hlt
      have e2 := HFV.out.b2 k hlt
      have t0 := sum_in (j := k) (by omega) HFV.out.b0
      have t1 := sum_in (j := k) (by omega) HFV.out.b1
      have t2 := sum_in (j := k) (by omega) HFV.out.b2
      have U0 := Lib.hid (sumTo_succ l (·.f0) f k)
      have U1 := Lib.hid (sumTo_succ l (·.f1) f k)
      have U2 := Lib.hid (sumTo_succ l (·.f2) f k)
      generalize l.getD (f.getD k 0).toNat default = xx at *
      obtain ⟨x, y, z⟩ := xx
      dsimp only at d0 d1 d2 e0 e1 e2 U0 U1 U2
      generalize sumTo l (·.f0) f k = S0 at *
      generalize sumTo l (·.f1) f k = S1 at *
      generalize sumTo l (·.f2) f k = S2 at *
      have w0 : IntKind.i64.wrap (S0 + x) = S0 + x := IntWalk.i64_in _ (by omega)
      have w1 : IntKind.i64.wrap (S1 + y) = S1 + y := IntWalk.i64_in _ (by omega)
      have w2 : IntKind.i64.wrap (S2 + z) = S2 + z := IntWalk.i64_in _ (by omega)
      go_wp2
      refine ⟨⟨k + 1, by omega, rfl, Below.trans HBEL.out (by repeat (first | exact Below.refl _ _ | refine Below.drew ?_ | refine Below.alloc ?_ (by first | exact Nat.le_refl _ | (simp; done) | (simp; omega) | omega) _ | refine Below.more ?_ (by first | exact Nat.le_refl _ | (simp; done) | (simp; omega) | omega) _ _ | refine Below.setCell ?_ (by first | exact Nat.le_refl _ | (simp; done) | (simp; omega) | omega) _ | assumption)), ?_, ?_, ?_, ?_, ?_, ?_, ?_, ?_, ?_, ?_, ?_, ?_⟩, by simp only [intOf]; omega⟩
      · rw [U0.out]; simp [go_sem, y1, y2, y3, s0, s1, s2]
      · rw [U1.out]; simp [go_sem, y1, y2, y3, s0, s1, s2]
      · rw [U2.out]; simp [go_sem, y1, y2, y3, s0, s1, s2]
      · simp [go_sem, y1, y2, y3, z0]
      · simp [go_sem, y1, y2, y3, z1]
      · simp [go_sem, y1, y2, y3, z2]
      · simp [go_sem, y0', Y2, Y3, r0]
      · simp [go_sem, y0', Y2, Y3, x0]
      · simp [go_sem, y0', Y2, Y3, r1]
      · simp [go_sem, y0', Y2, Y3, x1]
      · simp [go_sem, y0', Y2, Y3, r2]
      · simp [go_sem, y0', Y2, Y3, x2]
    · have hk1 : ¬ (k : Int) < 4 := by omega
      obtain rfl : k = 4 := by omega
      go_wp2
      exact bodyPost_ret (v := vecV (sumTo l (·.f0) f 4) (sumTo l (·.f1) f 4) (sumTo l (·.f2) f 4)) (by simp [results, Tryz.results16, go_sem, y0', r0, r1, r2, x0, x1, x2]) rfl ⟨rfl, Below.trans HBEL.out (by repeat (first | exact Below.refl _ _ | refine Below.drew ?_ | refine Below.alloc ?_ (by first | exact Nat.le_refl _ | (simp; done) | (simp; omega) | omega) _ | refine Below.more ?_ (by first | exact Nat.le_refl _ | (simp; done) | (simp; omega) | omega) _ _ | refine Below.setCell ?_ (by first | exact Nat.le_refl _ | (simp; done) | (simp; omega) | omega) _ | assumption))⟩
end Go.Proofs.YtbmhehjllchpoaaGreat
