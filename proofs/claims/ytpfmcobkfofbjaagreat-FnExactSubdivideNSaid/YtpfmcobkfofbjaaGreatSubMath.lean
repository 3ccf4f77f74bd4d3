/- SubMath, with EdgePointS, EdgesP ahead of it. -/
import Derived.Test.YtpfmcobkfofbjaaGreatEdgePointI
import Derived.Test.YtpfmcobkfofbjaaGreatEdgesS
import Derived.Test.YtpfmcobkfofbjaaGreatFsX
import Derived.Test.YtpfmcobkfofbjaaGreatVtx
namespace Go.Proofs.YtpfmcobkfofbjaaGreat
open Go Go.RowKit
set_option maxRecDepth 100000 in
set_option maxHeartbeats 4000000 in
theorem spec_EdgePoint_c (v : Value) (p : MeshD) (x y : Int) (hx : (Lit.int .i64 x).wf = true) (hy : (Lit.int .i64 y).wf = true) (w : World) (hr : MeshR w v p) (hs : MeshSz 1048576 p) :
    Calls Tryz.prog 19 #[v, .int .i64 x, .int .i64 y] w fun e w' => e = .returned (epR p x y) ∧ Below w.heap.size w w' := by
  have HEF := Lib.hid (fun W (h : Below w.heap.size w W) => spec_EdgeFaces_c v p x y hx hy W (hr.below h) hs)
  have HFC := Lib.hid (fun (hm : meshOk p) (z : Int) (hz : 0 ≤ z ∧ z < (p.nF : Int)) W (h : Below w.heap.size w W) => (fpR_yes (p := p) (x := z) ⟨hm, hz.1, by omega⟩) ▸ spec_FacePoint_c v p z W (hr.below h) hs)
  obtain ⟨a, c, a', c', rfl, h1, _⟩ := hr
  clear hs hx hy
  by_cases h0 : (efacesD p x y).length = 0
  · have HR := Lib.hid (show epR p x y = vecV 0 0 0 by rw [epR, if_pos h0])
    rw [HR.out]
    clear HR HFC h1
    rw [h0] at HEF
    clear h0
    generalize intAt (efacesD p x y) = C at *
    go_enter Tryz.func19, Tryz.ntmps19
    go_wp2_with (go_at_call 54; refine (HEF.out _ (by repeat (first | exact Below.refl _ _ | refine Below.drew ?_ | refine Below.alloc ?_ (by first | exact Nat.le_refl _ | (simp; done) | (simp; omega) | omega) _ | refine Below.more ?_ (by first | exact Nat.le_refl _ | (simp; done) | (simp; omega) | omega) _ _ | refine Below.setCell ?_ (by first | exact Nat.le_refl _ | (simp; done) | (simp; omega) | omega) _ | assumption))).mono ?_; rintro e wq ⟨fa, fc, rfl, _, hbq⟩; obtain ⟨X2, nX2, rfl⟩ := Below.ext hbq; clear hbq)
    exact bodyPost_ret (v := vecV 0 0 0) (by simp [results, Tryz.results19, go_sem]) rfl ⟨rfl, (by repeat (first | exact Below.refl _ _ | refine Below.drew ?_ | refine Below.alloc ?_ (by first | exact Nat.le_refl _ | (simp; done) | (simp; omega) | omega) _ | refine Below.more ?_ (by first | exact Nat.le_refl _ | (simp; done) | (simp; omega) | omega) _ _ | refine Below.setCell ?_ (by first | exact Nat.le_refl _ | (simp; done) | (simp; omega) | omega) _ | assumption))⟩
  · have hne : ((efacesD p x y).length : Int) ≠ 0 := by omega
    have hb0 : (((efacesD p x y).length : Int) == 0) = false := by simpa using hne
    have hon := onEdge_of h0
    have HR := Lib.hid (show epR p x y = epV p x y (efacesD p x y) by rw [epR, if_neg h0])
    rw [HR.out]
    clear HR hne
    generalize efacesD p x y = on at *
    obtain ⟨ix, rfl⟩ := Int.eq_ofNat_of_zero_le hon.a0.1
    obtain ⟨iy, rfl⟩ := Int.eq_ofNat_of_zero_le hon.b0.1
    have hx1 := hon.a0.2
    have hy1 := hon.b0.2
    have hx0 : ix < p.nV := by omega
    have hy0 : iy < p.nV := by omega
    have hB1 := vtx_B hon.ok hon.a0
    have hB2 := vtx_B hon.ok hon.b0
    obtain ⟨b, o, rfl, hb, hc⟩ := h1 (by omega)
    have c0 : w.cell? ⟨b, o + ix * 3, none⟩ = some (.int .i64 (vtx p ix).f0) := hc ix hx0 0 (by omega)
    have c1 : w.cell? ⟨b, o + ix * 3 + 1, none⟩ = some (.int .i64 (vtx p ix).f1) := hc ix hx0 1 (by omega)
    have c2 : w.cell? ⟨b, o + ix * 3 + 2, none⟩ = some (.int .i64 (vtx p ix).f2) := hc ix hx0 2 (by omega)
    have d0 : w.cell? ⟨b, o + iy * 3, none⟩ = some (.int .i64 (vtx p iy).f0) := hc iy hy0 0 (by omega)
    have d1 : w.cell? ⟨b, o + iy * 3 + 1, none⟩ = some (.int .i64 (vtx p iy).f1) := hc iy hy0 1 (by omega)
    have d2 : w.cell? ⟨b, o + iy * 3 + 2, none⟩ = some (.int .i64 (vtx p iy).f2) := hc iy hy0 2 (by omega)
    clear hc h1
    by_cases h2 : on.length = 2
    · have hq1 : ((on.length : Int) == 2) = true := by simp; omega
      obtain ⟨z, u, rfl⟩ : ∃ z u, on = [z, u] := by
        match on, h2 with
        | [z, u], _ => exact ⟨z, u, rfl⟩
      have hz := hon.on z (by simp)
      have hu := hon.on u (by simp)
      have HE := Lib.hid (show epV p ix iy [z, u] = meanL [vtx p ix, vtx p iy, fpD p z, fpD p u] 4 4 from rfl)
      have HZ := Lib.hid (HFC.out hon.ok z hz)
      have HU := Lib.hid (HFC.out hon.ok u hu)
      rw [fpV_D] at HZ HU
      have HB := Lib.hid (four_B hB1 hB2 (fpD_B hon.ok hz) (fpD_B hon.ok hu))
      clear HFC hz hu hB1 hB2 hon h2 h0
      have HAT := Lib.hid (at_four (x := vtx p ix) (y := vtx p iy) (z := fpD p z) (u := fpD p u))
      have HAV := Lib.hid (fun a cap W h => l07SumL_c a cap [vtx p ix, vtx p iy, fpD p z, fpD p u] 4 W HB.out (by omega) h)
      have HIN := Lib.hid (And.intro (sumL_in0 HB.out (by omega) (Nat.le_refl 4)) (And.intro (sumL_in1 HB.out (by omega) (Nat.le_refl 4)) (sumL_in2 HB.out (by omega) (Nat.le_refl 4))))
      have HTW := Lib.hid (fun W bs h => own_two W (vtx p ix) (vtx p iy) bs h)
      rw [HE.out, meanL]
      clear HE HB
      generalize sumL (·.f0) [vtx p ix, vtx p iy, fpD p z, fpD p u] 4 = S0 at *
      generalize sumL (·.f1) [vtx p ix, vtx p iy, fpD p z, fpD p u] 4 = S1 at *
      generalize sumL (·.f2) [vtx p ix, vtx p iy, fpD p z, fpD p u] 4 = S2 at *
      generalize vtx p ix = vx at *
      generalize vtx p iy = vy at *
      generalize fpD p z = vz at *
      generalize fpD p u = vu at *
      obtain ⟨x0, x1, x2⟩ := vx
      obtain ⟨y0, y1', y2⟩ := vy
      obtain ⟨z0, z1, z2⟩ := vz
      obtain ⟨u0, u1, u2⟩ := vu
      dsimp only at c0 c1 c2 d0 d1 d2 HZ HU HAT HTW
      obtain ⟨i0, hi, hz0, hz1, hz2⟩ := info_parts info_VecA
      go_enter Tryz.func19, Tryz.ntmps19
      go_wp2_with (go_at_call 54; refine (HEF.out _ (by repeat (first | exact Below.refl _ _ | refine Below.drew ?_ | refine Below.alloc ?_ (by first | exact Nat.le_refl _ | (simp; done) | (simp; omega) | omega) _ | refine Below.more ?_ (by first | exact Nat.le_refl _ | (simp; done) | (simp; omega) | omega) _ _ | refine Below.setCell ?_ (by first | exact Nat.le_refl _ | (simp; done) | (simp; omega) | omega) _ | assumption))).mono ?_; rintro e wq ⟨fa, fc, rfl, ho, hbq⟩; have HO := Lib.hid ho; have q0 := cell_below hbq (show World.cell? _ ⟨w.heap.size, 0, none⟩ = some (.slice (some ⟨b, o, none⟩) p.nV c) by simp [go_sem]); have q1 := cell_below hbq (show World.cell? _ ⟨w.heap.size, 1, none⟩ = some (.slice a' p.nF c') by simp [go_sem]); have s0 := cell_below hbq (show World.cell? _ ⟨w.heap.size + 1, 0, none⟩ = some (.int .i64 0) by simp [go_sem]); have s1 := cell_below hbq (show World.cell? _ ⟨w.heap.size + 1, 1, none⟩ = some (.int .i64 0) by simp [go_sem]); have s2 := cell_below hbq (show World.cell? _ ⟨w.heap.size + 1, 2, none⟩ = some (.int .i64 0) by simp [go_sem]); have t0 := frozen_below hbq (show World.cell? _ ⟨w.heap.size + 1, 0, none⟩ = some (.int .i64 0) by simp [go_sem]) (by simp [go_sem]); have t1 := frozen_below hbq (show World.cell? _ ⟨w.heap.size + 1, 1, none⟩ = some (.int .i64 0) by simp [go_sem]) (by simp [go_sem]); have t2 := frozen_below hbq (show World.cell? _ ⟨w.heap.size + 1, 2, none⟩ = some (.int .i64 0) by simp [go_sem]) (by simp [go_sem]); have HBW := Lib.hid (Below.trans (show Below w.heap.size w _ from (by repeat (first | exact Below.refl _ _ | refine Below.drew ?_ | refine Below.alloc ?_ (by first | exact Nat.le_refl _ | (simp; done) | (simp; omega) | omega) _ | refine Below.more ?_ (by first | exact Nat.le_refl _ | (simp; done) | (simp; omega) | omega) _ _ | refine Below.setCell ?_ (by first | exact Nat.le_refl _ | (simp; done) | (simp; omega) | omega) _ | assumption))) (hbq.mono (by simp; try omega))); have y1 := World.block_lt_of_cell? _ _ s0; have w0 := World.block_lt_of_cell? _ _ q0; replace c0 := cell_below HBW.out c0; replace c1 := cell_below HBW.out c1; replace c2 := cell_below HBW.out c2; replace d0 := cell_below HBW.out d0; replace d1 := cell_below HBW.out d1; replace d2 := cell_below HBW.out d2; have wb := World.block_lt_of_cell? _ _ c0; clear ho hbq)
      obtain ⟨fb, fo, hfa, hfb, hfc⟩ := HO.out.sl (by simp)
      subst hfa
      have f0 : wq.cell? ⟨fb, fo, none⟩ = some (.int .i64 z) := by simpa [intAt] using hfc 0 (by simp) 0 (by omega)
      have f1 : wq.cell? ⟨fb, fo + 1, none⟩ = some (.int .i64 u) := by simpa [intAt] using hfc 1 (by simp) 0 (by omega)
      clear hfc HO
      ((first | refine region_qt2 10 (by kernel_rfl) (by kernel_rfl) ?_ | refine region_qt 10 (by kernel_rfl) (by kernel_rfl) ?_); simp only [List.take_succ_cons, List.take_zero, List.drop_succ_cons, List.drop_zero])
      repeat (quiet_step (fail))
      (refine wpQuiet_nil ?_; intro X nX)
      go_wp2
      have HOW := Lib.hid (HTW.out (more wq X nX) wq.heap.size (by simp))
      have hsz2 : (more wq X nX).heap.size = wq.heap.size + X.size := by simp
      rw [hsz2, more_alloc] at HOW
      rw [more_alloc]
      clear HTW hsz2
      generalize wq.heap.size + X.size = g at *
      generalize X.push (.cells #[.int .i64 x0, .int .i64 x1, .int .i64 x2, .int .i64 y0, .int .i64 y1', .int .i64 y2] 43) = X0 at *
      refine region_app2 11 43 3 _ 2 2 _ [.int .i64 z0, .int .i64 z1, .int .i64 z2, .int .i64 u0, .int .i64 u1, .int .i64 u2] (by kernel_rfl) (by kernel_rfl) HOW.out ?_
      simp only [List.take_succ_cons, List.take_zero, List.drop_succ_cons, List.drop_zero]
      repeat (refine headS_step (fun K hK => ?_); go_simp; refine hK _ ?_; clear hK K)
      (refine headS_step (fun K hK => ?_); go_simp; refine ⟨_, fun zt => calls_stays (HZ.out _ (HBW.out.trans (by repeat (first | exact Below.refl _ _ | refine Below.drew ?_ | refine Below.alloc ?_ (by first | exact Nat.le_refl _ | (simp; done) | (simp; omega) | omega) _ | refine Below.more ?_ (by first | exact Nat.le_refl _ | (simp; done) | (simp; omega) | omega) _ _ | refine Below.setCell ?_ (by first | exact Nat.le_refl _ | (simp; done) | (simp; omega) | omega) _ | assumption)))), hK _ ?_⟩; clear hK K)
      repeat (refine headS_step (fun K hK => ?_); go_simp; refine hK _ ?_; clear hK K)
      (refine headS_step (fun K hK => ?_); go_simp; refine ⟨_, fun zt => calls_stays (HU.out _ (HBW.out.trans (by repeat (first | exact Below.refl _ _ | refine Below.drew ?_ | refine Below.alloc ?_ (by first | exact Nat.le_refl _ | (simp; done) | (simp; omega) | omega) _ | refine Below.more ?_ (by first | exact Nat.le_refl _ | (simp; done) | (simp; omega) | omega) _ _ | refine Below.setCell ?_ (by first | exact Nat.le_refl _ | (simp; done) | (simp; omega) | omega) _ | assumption)))), hK _ ?_⟩; clear hK K)
      repeat (refine headS_step (fun K hK => ?_); go_simp; refine hK _ ?_; clear hK K)
      refine headS_nil ?_
      refine tail_app2 (t := 27) _ _ (by go_simp) (fun w => by go_simp) (fun b => by go_simp) rfl Tryz.underlying27 hi hz0 hz1 hz2 rfl (by decide) (fun b => by first | rfl | go_simp) (fun b => by first | rfl | go_simp) rfl ?h1 (by decide) (by decide) (fun b v' => ?hr)
      case h1 =>
        intro u hu
        simp only [List.mem_cons, List.not_mem_nil, or_false] at hu
        rcases hu with rfl | rfl | rfl | rfl | rfl | rfl <;> rfl
      refine app2_quiet (u := v') (by go_simp) (fun w => by go_simp) ?_
      refine app2_done (fun X1 d1 hown1 => ?_)
      simp only [Act.put, List.setIfInBounds_toArray, List.set_cons_zero, List.set_cons_succ]
      obtain ⟨a4, c4, rfl, hsl⟩ := sl_of_own hown1 HAT.out
      have HSL := Lib.hid hsl
      clear hown1 hsl q0 q1 f0 f1
      go_wp2_with (first | (go_at_call 50; refine (HAV.out _ _ _ (HSL.out.below (by repeat (first | exact Below.refl _ _ | refine Below.drew ?_ | refine Below.alloc ?_ (by first | exact Nat.le_refl _ | (simp; done) | (simp; omega) | omega) _ | refine Below.more ?_ (by first | exact Nat.le_refl _ | (simp; done) | (simp; omega) | omega) _ _ | refine Below.setCell ?_ (by first | exact Nat.le_refl _ | (simp; done) | (simp; omega) | omega) _ | assumption)))).mono ?_; rintro e wn ⟨rfl, hbn⟩; obtain ⟨X, nX, rfl⟩ := Below.ext hbn; clear hbn) | (go_at_call 49; refine (l07By_c S0 S1 S2 4 _ ⟨by have := HIN.out; omega, by have := HIN.out; omega⟩ ⟨by have := HIN.out; omega, by have := HIN.out; omega⟩ ⟨by have := HIN.out; omega, by have := HIN.out; omega⟩).mono ?_; rintro e wn ⟨rfl, hbn⟩; obtain ⟨X, nX, rfl⟩ := Below.ext hbn; clear hbn))
      exact bodyPost_ret (v := vecV (fdivI S0 4) (fdivI S1 4) (fdivI S2 4)) (by simp [results, Tryz.results19, go_sem, s0, s1, s2, t0, t1, t2, y1]) rfl ⟨rfl, Below.trans HBW.out (by repeat (first | exact Below.refl _ _ | refine Below.drew ?_ | refine Below.alloc ?_ (by first | exact Nat.le_refl _ | (simp; done) | (simp; omega) | omega) _ | refine Below.more ?_ (by first | exact Nat.le_refl _ | (simp; done) | (simp; omega) | omega) _ _ | refine Below.setCell ?_ (by first | exact Nat.le_refl _ | (simp; done) | (simp; omega) | omega) _ | assumption))⟩
    · have hq1 : ((on.length : Int) == 2) = false := by simp; omega
      have HE := Lib.hid (show epV p ix iy on = meanL [vtx p ix, vtx p iy] 2 2 from by simp [epV, epL, h2])
      have HB := Lib.hid (two_B hB1 hB2)
      clear HFC hB1 hB2 hon h2 h0
      have HAT := Lib.hid (at_two (x := vtx p ix) (y := vtx p iy))
      have HAV := Lib.hid (fun a cap W h => l07SumL_c a cap [vtx p ix, vtx p iy] 2 W HB.out (by omega) h)
      have HIN := Lib.hid (And.intro (sumL_in0 HB.out (by omega) (Nat.le_refl 2)) (And.intro (sumL_in1 HB.out (by omega) (Nat.le_refl 2)) (sumL_in2 HB.out (by omega) (Nat.le_refl 2))))
      have HTW := Lib.hid (fun W bs h => own_two W (vtx p ix) (vtx p iy) bs h)
      rw [HE.out, meanL]
      clear HE HB
      generalize sumL (·.f0) [vtx p ix, vtx p iy] 2 = S0 at *
      generalize sumL (·.f1) [vtx p ix, vtx p iy] 2 = S1 at *
      generalize sumL (·.f2) [vtx p ix, vtx p iy] 2 = S2 at *
      generalize vtx p ix = vx at *
      generalize vtx p iy = vy at *
      obtain ⟨x0, x1, x2⟩ := vx
      obtain ⟨y0, y1', y2⟩ := vy
      dsimp only at c0 c1 c2 d0 d1 d2 HAT HTW
      go_enter Tryz.func19, Tryz.ntmps19
      go_wp2_with (go_at_call 54; refine (HEF.out _ (by repeat (first | exact Below.refl _ _ | refine Below.drew ?_ | refine Below.alloc ?_ (by first | exact Nat.le_refl _ | (simp; done) | (simp; omega) | omega) _ | refine Below.more ?_ (by first | exact Nat.le_refl _ | (simp; done) | (simp; omega) | omega) _ _ | refine Below.setCell ?_ (by first | exact Nat.le_refl _ | (simp; done) | (simp; omega) | omega) _ | assumption))).mono ?_; rintro e wq ⟨fa, fc, rfl, ho, hbq⟩; have HO := Lib.hid ho; have q0 := cell_below hbq (show World.cell? _ ⟨w.heap.size, 0, none⟩ = some (.slice (some ⟨b, o, none⟩) p.nV c) by simp [go_sem]); have q1 := cell_below hbq (show World.cell? _ ⟨w.heap.size, 1, none⟩ = some (.slice a' p.nF c') by simp [go_sem]); have s0 := cell_below hbq (show World.cell? _ ⟨w.heap.size + 1, 0, none⟩ = some (.int .i64 0) by simp [go_sem]); have s1 := cell_below hbq (show World.cell? _ ⟨w.heap.size + 1, 1, none⟩ = some (.int .i64 0) by simp [go_sem]); have s2 := cell_below hbq (show World.cell? _ ⟨w.heap.size + 1, 2, none⟩ = some (.int .i64 0) by simp [go_sem]); have t0 := frozen_below hbq (show World.cell? _ ⟨w.heap.size + 1, 0, none⟩ = some (.int .i64 0) by simp [go_sem]) (by simp [go_sem]); have t1 := frozen_below hbq (show World.cell? _ ⟨w.heap.size + 1, 1, none⟩ = some (.int .i64 0) by simp [go_sem]) (by simp [go_sem]); have t2 := frozen_below hbq (show World.cell? _ ⟨w.heap.size + 1, 2, none⟩ = some (.int .i64 0) by simp [go_sem]) (by simp [go_sem]); have HBW := Lib.hid (Below.trans (show Below w.heap.size w _ from (by repeat (first | exact Below.refl _ _ | refine Below.drew ?_ | refine Below.alloc ?_ (by first | exact Nat.le_refl _ | (simp; done) | (simp; omega) | omega) _ | refine Below.more ?_ (by first | exact Nat.le_refl _ | (simp; done) | (simp; omega) | omega) _ _ | refine Below.setCell ?_ (by first | exact Nat.le_refl _ | (simp; done) | (simp; omega) | omega) _ | assumption))) (hbq.mono (by simp; try omega))); have y1 := World.block_lt_of_cell? _ _ s0; have w0 := World.block_lt_of_cell? _ _ q0; replace c0 := cell_below HBW.out c0; replace c1 := cell_below HBW.out c1; replace c2 := cell_below HBW.out c2; replace d0 := cell_below HBW.out d0; replace d1 := cell_below HBW.out d1; replace d2 := cell_below HBW.out d2; have wb := World.block_lt_of_cell? _ _ c0; clear ho hbq)
      clear HO
      ((first | refine region_qt2 10 (by kernel_rfl) (by kernel_rfl) ?_ | refine region_qt 10 (by kernel_rfl) (by kernel_rfl) ?_); simp only [List.take_succ_cons, List.take_zero, List.drop_succ_cons, List.drop_zero])
      repeat (quiet_step (fail))
      (refine wpQuiet_nil ?_; intro X nX)
      go_wp2_with fail
      have HOW := Lib.hid (HTW.out (more wq X nX) wq.heap.size (by simp))
      have hsz2 : (more wq X nX).heap.size = wq.heap.size + X.size := by simp
      rw [hsz2, more_alloc] at HOW
      rw [more_alloc]
      clear HTW hsz2
      generalize wq.heap.size + X.size = g at *
      generalize X.push (.cells #[.int .i64 x0, .int .i64 x1, .int .i64 x2, .int .i64 y0, .int .i64 y1', .int .i64 y2] 43) = X0 at *
      obtain ⟨a4, c4, hv4, hsl⟩ := sl_of_own HOW.out HAT.out
      simp only [Value.slice.injEq, true_and] at hv4
      obtain ⟨rfl, rfl⟩ := hv4
      have HSL := Lib.hid hsl
      clear hsl q0 q1
      go_wp2_with (first | (go_at_call 50; refine (HAV.out _ _ _ (HSL.out.below (by repeat (first | exact Below.refl _ _ | refine Below.drew ?_ | refine Below.alloc ?_ (by first | exact Nat.le_refl _ | (simp; done) | (simp; omega) | omega) _ | refine Below.more ?_ (by first | exact Nat.le_refl _ | (simp; done) | (simp; omega) | omega) _ _ | refine Below.setCell ?_ (by first | exact Nat.le_refl _ | (simp; done) | (simp; omega) | omega) _ | assumption)))).mono ?_; rintro e wn ⟨rfl, hbn⟩; obtain ⟨X, nX, rfl⟩ := Below.ext hbn; clear hbn) | (go_at_call 49; refine (l07By_c S0 S1 S2 2 _ ⟨by have := HIN.out; omega, by have := HIN.out; omega⟩ ⟨by have := HIN.out; omega, by have := HIN.out; omega⟩ ⟨by have := HIN.out; omega, by have := HIN.out; omega⟩).mono ?_; rintro e wn ⟨rfl, hbn⟩; obtain ⟨X, nX, rfl⟩ := Below.ext hbn; clear hbn))
      exact bodyPost_ret (v := vecV (fdivI S0 2) (fdivI S1 2) (fdivI S2 2)) (by simp [results, Tryz.results19, go_sem, s0, s1, s2, t0, t1, t2, y1]) rfl ⟨rfl, Below.trans HBW.out (by repeat (first | exact Below.refl _ _ | refine Below.drew ?_ | refine Below.alloc ?_ (by first | exact Nat.le_refl _ | (simp; done) | (simp; omega) | omega) _ | refine Below.more ?_ (by first | exact Nat.le_refl _ | (simp; done) | (simp; omega) | omega) _ _ | refine Below.setCell ?_ (by first | exact Nat.le_refl _ | (simp; done) | (simp; omega) | omega) _ | assumption))⟩
end Go.Proofs.YtpfmcobkfofbjaaGreat
namespace Go.Proofs.YtpfmcobkfofbjaaGreat
open Go Go.RowKit
def pairsL (L : List (Int × Int)) : List (List Int) := L.map fun p => [p.1, p.2]
theorem face_pairs {L : List (Int × Int)} {i : Nat} (h : i < L.length) : faceAt (pairsL L) i = [(L.getD i (0, 0)).1, (L.getD i (0, 0)).2] := by
  simp [faceAt, pairsL, List.getD_eq_getElem?_getD, List.getElem?_eq_getElem h]
theorem fsX_of {w : World} {lo hi : Nat} {d : Bool} {a : Option Addr} {cap : Nat} {L : List (Int × Int)} {A : Nat → Option Addr} (h : PairsIn w lo hi (.slice a L.length cap) L A) (hd : d = true → ∀ i j, i < j → j < L.length → A i ≠ A j) : FsX w lo hi d a L.length (pairsL L) none := by
  by_cases h0 : L.length = 0
  · rw [h0]
    exact ⟨A, fun _ => 0, fun _ => 0, 0, Ow.none, fun i hi => absurd hi (Nat.not_lt_zero _), fun _ i j _ hj => absurd hj (Nat.not_lt_zero _), fun h => absurd h (Nat.lt_irrefl _), fun i hi => absurd hi (Nat.not_lt_zero _), fun i hi => absurd hi (Nat.not_lt_zero _)⟩
  have hl2 : ∀ i, i < L.length → (faceAt (pairsL L) i).length = 2 := fun i hi => by rw [face_pairs hi]; rfl
  have hown := h.own
  rcases hown.2 with ⟨_, h1⟩ | ⟨g, cap', cur, h1, hb, hg, hnc, hcm, hcs, ht⟩
  · exact absurd h1 h0
  · simp only [Value.slice.injEq] at h1
    obtain ⟨rfl, _, rfl⟩ := h1
    have htop := h.top g rfl
    have hcl : cap * 1 ≥ L.length := by omega
    have hcl2 : L.length * 1 ≤ cur.toList.length := by have : cur.toList.length = cap * 1 := by simpa using hcs
                                                       omega
    refine ⟨A, fun _ => 2, fun i => match A i with | some ad => ad.block | none => 0, g, fun _ => ⟨g, cur.toList, 45, rfl, Nat.le_refl _, Nat.lt_succ_self _, hg, hcl2, fun i hi j hj => ?_⟩, fun i hi => ?_, fun hdt i j hij hj => ?_, fun _ => ⟨hb, htop⟩, fun i hi => by rw [hl2 i hi]; exact Nat.le_refl 2, fun i hi => by rw [hl2 i hi]; decide⟩
    · obtain rfl : j = 0 := by omega
      rw [Nat.mul_one, Nat.add_zero]
      have h2 : (slices2 A L.length)[i]? = some (.slice (A i) 2 2) := by simp [slices2, hi]
      rw [← ht, List.getElem?_take, if_pos (by omega)] at h2
      rw [h2]
      simp [facesAt, hl2 i hi]
    · obtain ⟨u, hu, h3, h4, h5⟩ := h.pair i hi
      simp only [hu]
      refine ⟨h3, h4, fun e => ?_, fun _ => ⟨u, [.int .i64 (L.getD i (0, 0)).1, .int .i64 (L.getD i (0, 0)).2], 3, rfl, Nat.le_refl _, Nat.lt_succ_self _, h5, by rw [hl2 i hi]; exact Nat.le_refl 2, fun k hk j hj => ?_⟩⟩
      · rw [e, hg] at h5
        simp only [Option.some.injEq, Obj.cells.injEq] at h5
        exact absurd h5.2.1 (by decide)
      · obtain rfl : j = 0 := by omega
        rw [hl2 i hi] at hk
        simp only [fsC, face_pairs hi]
        match k, hk with
        | 0, _ => rfl
        | 1, _ => rfl
    · obtain ⟨u, hu, _⟩ := h.pair i (by omega)
      obtain ⟨v, hv, _⟩ := h.pair j hj
      have hne := hd hdt i j hij hj
      simp only [hu, hv] at hne ⊢
      intro e
      exact hne (by rw [e])
theorem spec_EdgesP_c (v : Value) (p : MeshD) (w : World) (hr : MeshR w v p) (hs : MeshSz 1048576 p) :
    Calls Tryz.prog 16 #[v] w fun e w' => ∃ a cap, e = .returned (.slice a (edgesD p).length cap) ∧ FsX w' w.heap.size w'.heap.size false a (edgesD p).length (pairsL (edgesD p)) none ∧ Below w.heap.size w w' :=
  (spec_Edges_c v p w hr hs).mono fun e w' ⟨u, A, he, hp, hb⟩ => by
    obtain ⟨a, cap, rfl⟩ := hp.form
    exact ⟨a, cap, he, fsX_of hp (fun h => by cases h), hb⟩
theorem spec_BoundaryEdgesP_c (v : Value) (p : MeshD) (w : World) (hr : MeshR w v p) (hs : MeshSz 1048576 p) :
    Calls Tryz.prog 76 #[v] w fun e w' => ∃ a cap, e = .returned (.slice a (bndD p).length cap) ∧ FsX w' w.heap.size w'.heap.size false a (bndD p).length (pairsL (bndD p)) none ∧ Below w.heap.size w w' :=
  (spec_BoundaryEdges_c v p w hr hs).mono fun e w' ⟨u, A, he, hp, hb⟩ => by
    obtain ⟨a, cap, rfl⟩ := hp.form
    exact ⟨a, cap, he, fsX_of hp (fun h => by cases h), hb⟩
end Go.Proofs.YtpfmcobkfofbjaaGreat
namespace Go.Proofs.YtpfmcobkfofbjaaGreat
open Go Go.RowKit
/-- A vector value's three parts. -/
def vecOf : Value → VecD
  | .agg #[.int _ x, .int _ y, .int _ z] => ⟨x, y, z⟩
  | _ => default
noncomputable def vpD (p : MeshD) (v : Int) : VecD := vecOf (vpE p v)
theorem vpE_D (p : MeshD) (v : Int) : vpE p v = vecV (vpD p v).f0 (vpD p v).f1 (vpD p v).f2 := by
  obtain ⟨x, y, z, h⟩ := vpE_vec p v
  rw [vpD, h]
  rfl
noncomputable def epD (p : MeshD) (e : Int × Int) : VecD := vecOf (epV p e.1 e.2 (hitsTo p.faces e p.nF))
theorem epV_D (p : MeshD) (e : Int × Int) : epV p e.1 e.2 (hitsTo p.faces e p.nF) = vecV (epD p e).f0 (epD p e).f1 (epD p e).f2 := rfl
/-- The place of an edge among the edges. -/
def placeE (L : List (Int × Int)) (e : Int × Int) : Nat := L.idxOf e
theorem placeE_lt {L : List (Int × Int)} {e : Int × Int} (h : e ∈ L) : placeE L e < L.length := List.idxOf_lt_length_iff.2 h
/-- The new face at corner j of face i. -/
noncomputable def subFace (p : MeshD) (i j : Nat) : List Int :=
  let L := edgesL p.faces p.nF
  let f := faceAt p.faces i
  [f.getD j 0, p.nV + placeE L (und (f.getD j 0, f.getD ((j + 1) % 4) 0)), p.nV + L.length + i, p.nV + placeE L (und (f.getD j 0, f.getD ((j + 3) % 4) 0))]
noncomputable def subOk (p : MeshD) : Prop := meshOk p ∧ p.nF ≤ 16 ∧ p.nV + (edgesL p.faces p.nF).length + p.nF ≤ 80
/-- The vertices: a point for each vertex, edge and face. -/
noncomputable def subVs (p : MeshD) : List VecD := ((List.range p.nV).map fun v : Nat => vpD p (v : Int)) ++ (edgesL p.faces p.nF).map (epD p) ++ (List.range p.nF).map fun i : Nat => fpD p (i : Int)
noncomputable def subFs (p : MeshD) : List (List Int) := (List.range p.nF).flatMap fun i => (List.range 4).map fun j => subFace p i j
theorem subVs_len (p : MeshD) : (subVs p).length = p.nV + (edgesL p.faces p.nF).length + p.nF := by simp [subVs]; omega
theorem subFs_len (p : MeshD) : (subFs p).length = 4 * p.nF := by
  have h : ∀ n, ((List.range n).flatMap fun i => (List.range 4).map fun j => subFace p i j).length = 4 * n := fun n => by
    induction n with
    | zero => rfl
    | succ n ih => rw [List.range_succ (n := n), List.flatMap_append, List.length_append, ih]; simp; omega
  exact h p.nF
open Classical in
noncomputable def subD (p : MeshD) : MeshD := if subOk p then ⟨subVs p, subFs p, p.nV + (edgesL p.faces p.nF).length + p.nF, 4 * p.nF, subVs_len p, subFs_len p⟩ else ⟨[], [], 0, 0, rfl, rfl⟩
open Classical in
noncomputable def subB (p : MeshD) : Bool := decide (subOk p)
theorem hits_pos {s : List (List Int)} {k : Nat} {e : Int × Int} (h : e ∈ edgesL s k) : (hitsTo s e k).length ≠ 0 := by
  obtain ⟨i, j, hi, hj, rfl⟩ := mem_edgesL h
  have h1 : (i : Int) ∈ hitsTo s (und (stepAt (faceAt s i) j)) k := by
    simp only [hitsTo, List.mem_flatten, List.mem_map, List.mem_range]
    refine ⟨_, ⟨i, hi, rfl⟩, ?_⟩
    simp only [stepHits, List.mem_map, List.mem_filter, List.mem_range]
    exact ⟨j, ⟨hj, by simp⟩, by first | rfl | trivial⟩
  have := List.length_pos_of_mem h1
  omega
theorem und_edge {s : List (List Int)} {k : Nat} {e : Int × Int} (h : e ∈ edgesL s k) : und (e.1, e.2) = e := by
  obtain ⟨i, j, hi, hj, rfl⟩ := mem_edgesL h
  generalize stepAt (faceAt s i) j = q
  obtain ⟨x, y⟩ := q
  simp only [und, Prod.mk.injEq]
  omega
theorem epR_edge {p : MeshD} (hok : meshOkB p = true) {e : Int × Int} (h : e ∈ edgesL p.faces p.nF) : epR p e.1 e.2 = vecV (epD p e).f0 (epD p e).f1 (epD p e).f2 := by
  have h1 : efacesD p e.1 e.2 = hitsTo p.faces e p.nF := by rw [efacesD, if_pos hok, und_edge h]
  rw [epR, h1, if_neg (hits_pos h), epV_D]
/-- Nothing of the first k is e. -/
def NoE (L : List (Int × Int)) (e : Int × Int) (k : Nat) : Prop := ∀ i, i < k → L.getD i (0, 0) ≠ e
theorem noE_succ {L : List (Int × Int)} {e : Int × Int} {k : Nat} (h : NoE L e k) (hk : L.getD k (0, 0) ≠ e) : NoE L e (k + 1) := fun i hi => by
  by_cases h1 : i = k
  · subst h1; exact hk
  · exact h i (by omega)
theorem placeE_at {L : List (Int × Int)} {e : Int × Int} {k : Nat} (h : NoE L e k) (hk : k < L.length) (he : L.getD k (0, 0) = e) : placeE L e = k := by
  induction L generalizing k with
  | nil => simp at hk
  | cons x L ih =>
    cases k with
    | zero =>
      simp only [List.getD_cons_zero] at he
      subst he
      simp [placeE]
    | succ k =>
      have h0 := h 0 (by omega)
      simp only [List.getD_cons_zero] at h0
      have h1 : NoE L e k := fun i hi => by have := h (i + 1) (by omega); simpa using this
      have h2 := ih h1 (by simpa using hk) (by simpa using he)
      have h3 : (x == e) = false := by simpa using h0
      simp only [placeE] at h2 ⊢
      rw [List.idxOf_cons, h3]
      simp only [cond_false]
      omega
set_option maxRecDepth 100000 in
set_option maxHeartbeats 4000000 in
theorem l07Place_c (a : Option Addr) (cap : Nat) (lo hi : Nat) (L : List (Int × Int)) (A : Nat → Option Addr) (x y : Int) (w : World) (h : PairsIn w lo hi (.slice a L.length cap) L A) (hm : und (x, y) ∈ L) (hl : L.length ≤ 1048576) :
    Calls Tryz.prog 21 #[.slice a L.length cap, .int .i64 x, .int .i64 y] w fun e w' => e = .returned (.int .i64 (placeE L (und (x, y)) : Nat)) ∧ Below w.heap.size w w' := by
  have HP := Lib.hid h
  have HAT := Lib.hid (fun k (h1 : NoE L (und (x, y)) k) hk he => placeE_at (L := L) (e := und (x, y)) (k := k) h1 hk he)
  have HNO := Lib.hid (show NoE L (und (x, y)) L.length → False from fun hn => by
    obtain ⟨i, hi, he⟩ := List.getElem_of_mem hm
    exact hn i hi (by rw [List.getD_eq_getElem?_getD, List.getElem?_eq_getElem hi]; exact he))
  have HPR := Lib.hid (show und (x, y) = (min x y, max x y) from rfl)
  clear h hm
  obtain ⟨e, he⟩ : ∃ e, e = und (x, y) := ⟨_, rfl⟩
  rw [← he] at HAT HNO HPR ⊢
  clear he
  generalize hR : placeE L e = R at *
  clear hR
  generalize hn : L.length = n at *
  have HN := Lib.hid hn
  clear hn
  go_enter Tryz.func21, Tryz.ntmps21
  go_wp2
  go_loopw [11] (fun i wr => ∃ (k : Nat), k ≤ n ∧ i = .int .i64 k ∧ Below w.heap.size w wr ∧ NoE L e k) (fun i _ => n - (intOf i).toNat)
  case atStart => exact ⟨0, by omega, rfl, (by repeat (first | exact Below.refl _ _ | refine Below.drew ?_ | refine Below.alloc ?_ (by first | exact Nat.le_refl _ | (simp; done) | (simp; omega) | omega) _ | refine Below.more ?_ (by first | exact Nat.le_refl _ | (simp; done) | (simp; omega) | omega) _ _ | refine Below.setCell ?_ (by first | exact Nat.le_refl _ | (simp; done) | (simp; omega) | omega) _ | assumption)), fun i hi => absurd hi (Nat.not_lt_zero _)⟩
  case round =>
    obtain ⟨k, hk, rfl, hbel, hno⟩ := hrel
    have HBEL := Lib.hid hbel
    have HNE := Lib.hid hno
    clear hno
    by_cases hlt : k < n
    · have hk1 : (k : Int) < (n : Int) := by omega
      obtain ⟨g, cap2, u, hv, _, hg, hu, d0, d1, d2⟩ := (HP.out.below hbel).read (i := k) (by rw [HN.out]; exact hlt)
      rw [HN.out] at hv
      simp only [Value.slice.injEq] at hv
      obtain ⟨rfl, _, rfl⟩ := hv
      have HST := Lib.hid (fun (h2 : L.getD k (0, 0) ≠ e) => noE_succ HNE.out h2)
      have HFD := Lib.hid (fun (h2 : L.getD k (0, 0) = e) => HAT.out k HNE.out hlt h2)
      have hbs := hbel.size
      clear hbel
      generalize L.getD k (0, 0) = pr at *
      obtain ⟨e1, e2⟩ := pr
      dsimp only at d1 d2
      by_cases c1 : e1 = min x y
      · by_cases c2 : e2 = max x y
        · have HR := Lib.hid (HFD.out (by rw [c1, c2, HPR.out]))
          have b1 : (e1 == min x y) = true := by rw [beq_iff_eq]; exact c1
          have b2 : (e2 == max x y) = true := by rw [beq_iff_eq]; exact c2
          clear HST HFD c1 c2
          go_wp2
          (first | refine region_q2 (by kernel_rfl) (by kernel_rfl) ?_ | refine region_q (by kernel_rfl) (by kernel_rfl) ?_)
          repeat (first | go_big_quiet_skip | (go_big_quiet_want; go_simp; go_big_quiet_on))
          (refine wpQuiet_step (fun K hK => ?_); go_simp; refine ⟨_, fun zt => ext_same (l01Min_c _ _ _), hK _ ?_⟩; clear hK K)
          repeat (first | go_big_quiet_skip | (go_big_quiet_want; go_simp; go_big_quiet_on))
          (refine wpQuiet_step (fun K hK => ?_); go_simp; refine ⟨_, fun zt => ext_same (l01Max_c _ _ _), hK _ ?_⟩; clear hK K)
          repeat (first | go_big_quiet_skip | (go_big_quiet_want; go_simp; go_big_quiet_on))
          (refine wpQuiet_nil ?_; intro X nX)
          go_wp2
          go_ret
          exact ⟨by first | (rw [HR.out]; done) | (rw [HR.out]; rfl) | simp [HR.out], Below.trans HBEL.out (by repeat (first | exact Below.refl _ _ | refine Below.drew ?_ | refine Below.alloc ?_ (by first | exact Nat.le_refl _ | (simp; done) | (simp; omega) | omega) _ | refine Below.more ?_ (by first | exact Nat.le_refl _ | (simp; done) | (simp; omega) | omega) _ _ | refine Below.setCell ?_ (by first | exact Nat.le_refl _ | (simp; done) | (simp; omega) | omega) _ | assumption))⟩
        · have HS2 := Lib.hid (HST.out (by rw [HPR.out]; intro q; simp only [Prod.mk.injEq] at q; exact c2 q.2))
          have b1 : (e1 == min x y) = true := by rw [beq_iff_eq]; exact c1
          have b2 : (e2 == max x y) = false := by rw [beq_eq_false_iff_ne]; exact c2
          clear HST HFD c1 c2
          go_wp2
          (first | refine region_q2 (by kernel_rfl) (by kernel_rfl) ?_ | refine region_q (by kernel_rfl) (by kernel_rfl) ?_)
          repeat (first | go_big_quiet_skip | (go_big_quiet_want; go_simp; go_big_quiet_on))
          (refine wpQuiet_step (fun K hK => ?_); go_simp; refine ⟨_, fun zt => ext_same (l01Min_c _ _ _), hK _ ?_⟩; clear hK K)
          repeat (first | go_big_quiet_skip | (go_big_quiet_want; go_simp; go_big_quiet_on))
          (refine wpQuiet_step (fun K hK => ?_); go_simp; refine ⟨_, fun zt => ext_same (l01Max_c _ _ _), hK _ ?_⟩; clear hK K)
          repeat (first | go_big_quiet_skip | (go_big_quiet_want; go_simp; go_big_quiet_on))
          (refine wpQuiet_nil ?_; intro X nX)
          go_wp2
          exact ⟨⟨k + 1, by omega, by go_num, Below.trans HBEL.out (by repeat (first | exact Below.refl _ _ | refine Below.drew ?_ | refine Below.alloc ?_ (by first | exact Nat.le_refl _ | (simp; done) | (simp; omega) | omega) _ | refine Below.more ?_ (by first | exact Nat.le_refl _ | (simp; done) | (simp; omega) | omega) _ _ | refine Below.setCell ?_ (by first | exact Nat.le_refl _ | (simp; done) | (simp; omega) | omega) _ | assumption)), HS2.out⟩, by simp only [intOf]; omega⟩
      · have HS2 := Lib.hid (HST.out (by rw [HPR.out]; intro q; simp only [Prod.mk.injEq] at q; exact c1 q.1))
        have b1 : (e1 == min x y) = false := by rw [beq_eq_false_iff_ne]; exact c1
        clear HST HFD c1
        go_wp2
        (first | refine region_q2 (by kernel_rfl) (by kernel_rfl) ?_ | refine region_q (by kernel_rfl) (by kernel_rfl) ?_)
        repeat (first | go_big_quiet_skip | (go_big_quiet_want; go_simp; go_big_quiet_on))
        (refine wpQuiet_step (fun K hK => ?_); go_simp; refine ⟨_, fun zt => ext_same (l01Min_c _ _ _), hK _ ?_⟩; clear hK K)
        repeat (first | go_big_quiet_skip | (go_big_quiet_want; go_simp; go_big_quiet_on))
        (refine wpQuiet_nil ?_; intro X nX)
        go_wp2
        exact ⟨⟨k + 1, by omega, by go_num, Below.trans HBEL.out (by repeat (first | exact Below.refl _ _ | refine Below.drew ?_ | refine Below.alloc ?_ (by first | exact Nat.le_refl _ | (simp; done) | (simp; omega) | omega) _ | refine Below.more ?_ (by first | exact Nat.le_refl _ | (simp; done) | (simp; omega) | omega) _ _ | refine Below.setCell ?_ (by first | exact Nat.le_refl _ | (simp; done) | (simp; omega) | omega) _ | assumption)), HS2.out⟩, by simp only [intOf]; omega⟩
    · exact (HNO.out (by have := HNE.out; rw [show k = n from by omega] at this; exact this)).elim
end Go.Proofs.YtpfmcobkfofbjaaGreat
