/- Contract of the reference's EdgePoint. -/
import Derived.Test.YtbmhehjllchpoaaEdgePointI
namespace Go.Proofs.Ytbmhehjllchpoaa
open Go Go.RowKit
set_option maxRecDepth 100000 in
set_option maxHeartbeats 4000000 in
theorem spec_EdgePoint_c (v : Value) (p : MeshD) (x y : Int) (hx : (Lit.int .i64 x).wf = true) (hy : (Lit.int .i64 y).wf = true) (w : World) (hr : MeshR w v p) (hs : MeshSz 1048576 p) :
    Calls Try.prog 37 #[v, .int .i64 x, .int .i64 y] w fun e w' => e = .returned (epR p x y) ∧ Below w.heap.size w w' := by
  have HEF := Lib.hid (fun W (h : Below w.heap.size w W) => spec_EdgeFaces_c v p x y hx hy W (hr.below h) hs)
  have HFC := Lib.hid (fun (hm : meshOk p) (z : Int) (hz : 0 ≤ z ∧ z < (p.nF : Int)) W (h : Below w.heap.size w W) => (fpR_yes (p := p) (x := z) ⟨hm, hz.1, by omega⟩) ▸ spec_FacePoint_c v p z W (hr.below h) hs)
  obtain ⟨a, c, a', c', rfl, h1, _⟩ := hr
  clear hs hx hy
  by_cases h0 : (efacesD p x y).length = 0
  · have HR := Lib.hid (show epR p x y = vecV 0 0 0 by rw [epR, if_pos h0])
    rw [HR.out]
    clear HR HFC h1
    rw [h0] at HEF
    clear h0
    generalize intAt (efacesD p x y) = C at *
    go_enter Try.func37, Try.ntmps37
    go_wp2_with (go_at_call 28; refine (HEF.out _ (by repeat (first | exact Below.refl _ _ | refine Below.drew ?_ | refine Below.alloc ?_ (by first | exact Nat.le_refl _ | (simp; done) | (simp; omega) | omega) _ | refine Below.more ?_ (by first | exact Nat.le_refl _ | (simp; done) | (simp; omega) | omega) _ _ | refine Below.setCell ?_ (by first | exact Nat.le_refl _ | (simp; done) | (simp; omega) | omega) _ | assumption))).mono ?_; rintro e wq ⟨fa, fc, rfl, _, hbq⟩; obtain ⟨X2, nX2, rfl⟩ := Below.ext hbq; clear hbq)
    exact bodyPost_ret (v := vecV 0 0 0) (by simp [results, Try.results37, go_sem]) rfl ⟨rfl, (by repeat (first | exact Below.refl _ _ | refine Below.drew ?_ | refine Below.alloc ?_ (by first | exact Nat.le_refl _ | (simp; done) | (simp; omega) | omega) _ | refine Below.more ?_ (by first | exact Nat.le_refl _ | (simp; done) | (simp; omega) | omega) _ _ | refine Below.setCell ?_ (by first | exact Nat.le_refl _ | (simp; done) | (simp; omega) | omega) _ | assumption))⟩
  · have hne : ((efacesD p x y).length : Int) ≠ 0 := by omega
    have hb0 : (((efacesD p x y).length : Int) == 0) = false := by simpa using hne
    have hon := onEdge_of h0
    have HR := Lib.hid (show epR p x y = epV p x y (efacesD p x y) by rw [epR, if_neg h0])
    rw [HR.out]
    clear HR hne
    generalize efacesD p x y = on at *
    obtain ⟨ix, rfl⟩ := Int.eq_ofNat_of_zero_le hon.a0.1
    obtain ⟨iy, rfl⟩ := Int.eq_ofNat_of_zero_le hon.b0.1
    have hx1 := hon.a0.2
    have hy1 := hon.b0.2
    have hx0 : ix < p.nV := by omega
    have hy0 : iy < p.nV := by omega
    have hB1 := vtx_B hon.ok hon.a0
    have hB2 := vtx_B hon.ok hon.b0
    obtain ⟨b, o, rfl, hb, hc⟩ := h1 (by omega)
    have c0 : w.cell? ⟨b, o + ix * 3, none⟩ = some (.int .i64 (vtx p ix).f0) := hc ix hx0 0 (by omega)
    have c1 : w.cell? ⟨b, o + ix * 3 + 1, none⟩ = some (.int .i64 (vtx p ix).f1) := hc ix hx0 1 (by omega)
    have c2 : w.cell? ⟨b, o + ix * 3 + 2, none⟩ = some (.int .i64 (vtx p ix).f2) := hc ix hx0 2 (by omega)
    have d0 : w.cell? ⟨b, o + iy * 3, none⟩ = some (.int .i64 (vtx p iy).f0) := hc iy hy0 0 (by omega)
    have d1 : w.cell? ⟨b, o + iy * 3 + 1, none⟩ = some (.int .i64 (vtx p iy).f1) := hc iy hy0 1 (by omega)
    have d2 : w.cell? ⟨b, o + iy * 3 + 2, none⟩ = some (.int .i64 (vtx p iy).f2) := hc iy hy0 2 (by omega)
    clear hc h1
    by_cases h2 : on.length = 2
    · have hq1 : ((on.length : Int) == 2) = true := by simp; omega
      obtain ⟨z, u, rfl⟩ : ∃ z u, on = [z, u] := by
        match on, h2 with
        | [z, u], _ => exact ⟨z, u, rfl⟩
      have hz := hon.on z (by simp)
      have hu := hon.on u (by simp)
      have HE := Lib.hid (show epV p ix iy [z, u] = meanL [vtx p ix, vtx p iy, fpD p z, fpD p u] 4 4 from rfl)
      have HZ := Lib.hid (HFC.out hon.ok z hz)
      have HU := Lib.hid (HFC.out hon.ok u hu)
      rw [fpV_D] at HZ HU
      have HB := Lib.hid (four_B hB1 hB2 (fpD_B hon.ok hz) (fpD_B hon.ok hu))
      clear HFC hz hu hB1 hB2 hon h2 h0
      have HAT := Lib.hid (at_four (x := vtx p ix) (y := vtx p iy) (z := fpD p z) (u := fpD p u))
      have HAV := Lib.hid (fun a cap W h => l07SumL_c a cap [vtx p ix, vtx p iy, fpD p z, fpD p u] 4 W HB.out (by omega) h)
      have HIN := Lib.hid (And.intro (sumL_in0 HB.out (by omega) (Nat.le_refl 4)) (And.intro (sumL_in1 HB.out (by omega) (Nat.le_refl 4)) (sumL_in2 HB.out (by omega) (Nat.le_refl 4))))
      have HTW := Lib.hid (fun W bs h => own_two W (vtx p ix) (vtx p iy) bs h)
      rw [HE.out, meanL]
      clear HE HB
      generalize sumL (·.f0) [vtx p ix, vtx p iy, fpD p z, fpD p u] 4 = S0 at *
      generalize sumL (·.f1) [vtx p ix, vtx p iy, fpD p z, fpD p u] 4 = S1 at *
      generalize sumL (·.f2) [vtx p ix, vtx p iy, fpD p z, fpD p u] 4 = S2 at *
      generalize vtx p ix = vx at *
      generalize vtx p iy = vy at *
      generalize fpD p z = vz at *
      generalize fpD p u = vu at *
      obtain ⟨x0, x1, x2⟩ := vx
      obtain ⟨y0, y1', y2⟩ := vy
      obtain ⟨z0, z1, z2⟩ := vz
      obtain ⟨u0, u1, u2⟩ := vu
      dsimp only at c0 c1 c2 d0 d1 d2 HZ HU HAT HTW
      obtain ⟨i0, hi, hz0, hz1, hz2⟩ := info_parts info_VecA
      go_enter Try.func37, Try.ntmps37
      go_wp2_with (go_at_call 28; refine (HEF.out _ (by repeat (first | exact Below.refl _ _ | refine Below.drew ?_ | refine Below.alloc ?_ (by first | exact Nat.le_refl _ | (simp; done) | (simp; omega) | omega) _ | refine Below.more ?_ (by first | exact Nat.le_refl _ | (simp; done) | (simp; omega) | omega) _ _ | refine Below.setCell ?_ (by first | exact Nat.le_refl _ | (simp; done) | (simp; omega) | omega) _ | assumption))).mono ?_; rintro e wq ⟨fa, fc, rfl, ho, hbq⟩; have HO := Lib.hid ho; have q0 := cell_below hbq (show World.cell? _ ⟨w.heap.size, 0, none⟩ = some (.slice (some ⟨b, o, none⟩) p.nV c) by simp [go_sem]); have q1 := cell_below hbq (show World.cell? _ ⟨w.heap.size, 1, none⟩ = some (.slice a' p.nF c') by simp [go_sem]); have s0 := cell_below hbq (show World.cell? _ ⟨w.heap.size + 1, 0, none⟩ = some (.int .i64 0) by simp [go_sem]); have s1 := cell_below hbq (show World.cell? _ ⟨w.heap.size + 1, 1, none⟩ = some (.int .i64 0) by simp [go_sem]); have s2 := cell_below hbq (show World.cell? _ ⟨w.heap.size + 1, 2, none⟩ = some (.int .i64 0) by simp [go_sem]); have t0 := frozen_below hbq (show World.cell? _ ⟨w.heap.size + 1, 0, none⟩ = some (.int .i64 0) by simp [go_sem]) (by simp [go_sem]); have t1 := frozen_below hbq (show World.cell? _ ⟨w.heap.size + 1, 1, none⟩ = some (.int .i64 0) by simp [go_sem]) (by simp [go_sem]); have t2 := frozen_below hbq (show World.cell? _ ⟨w.heap.size + 1, 2, none⟩ = some (.int .i64 0) by simp [go_sem]) (by simp [go_sem]); have HBW := Lib.hid (Below.trans (show Below w.heap.size w _ from (by repeat (first | exact Below.refl _ _ | refine Below.drew ?_ | refine Below.alloc ?_ (by first | exact Nat.le_refl _ | (simp; done) | (simp; omega) | omega) _ | refine Below.more ?_ (by first | exact Nat.le_refl _ | (simp; done) | (simp; omega) | omega) _ _ | refine Below.setCell ?_ (by first | exact Nat.le_refl _ | (simp; done) | (simp; omega) | omega) _ | assumption))) (hbq.mono (by simp; try omega))); have y1 := World.block_lt_of_cell? _ _ s0; have w0 := World.block_lt_of_cell? _ _ q0; replace c0 := cell_below HBW.out c0; replace c1 := cell_below HBW.out c1; replace c2 := cell_below HBW.out c2; replace d0 := cell_below HBW.out d0; replace d1 := cell_below HBW.out d1; replace d2 := cell_below HBW.out d2; have wb := World.block_lt_of_cell? _ _ c0; clear ho hbq)
      obtain ⟨fb, fo, hfa, hfb, hfc⟩ := HO.out.sl (by simp)
      subst hfa
      have f0 : wq.cell? ⟨fb, fo, none⟩ = some (.int .i64 z) := by simpa [intAt] using hfc 0 (by simp) 0 (by omega)
      have f1 : wq.cell? ⟨fb, fo + 1, none⟩ = some (.int .i64 u) := by simpa [intAt] using hfc 1 (by simp) 0 (by omega)
      clear hfc HO
      ((first | refine region_qt2 10 (by kernel_rfl) (by kernel_rfl) ?_ | refine region_qt 10 (by kernel_rfl) (by kernel_rfl) ?_); simp only [List.take_succ_cons, List.take_zero, List.drop_succ_cons, List.drop_zero])
      repeat (quiet_step (fail))
      (refine wpQuiet_nil ?_; intro X nX)
      go_wp2
      have HOW := Lib.hid (HTW.out (more wq X nX) wq.heap.size (by simp))
      have hsz2 : (more wq X nX).heap.size = wq.heap.size + X.size := by simp
      rw [hsz2, more_alloc] at HOW
      rw [more_alloc]
      clear HTW hsz2
      generalize wq.heap.size + X.size = g at *
      generalize X.push (.cells #[.int .i64 x0, .int .i64 x1, .int .i64 x2, .int .i64 y0, .int .i64 y1', .int .i64 y2] 35) = X0 at *
      refine region_app2 11 35 3 _ 2 2 _ [.int .i64 z0, .int .i64 z1, .int .i64 z2, .int .i64 u0, .int .i64 u1, .int .i64 u2] (by kernel_rfl) (by kernel_rfl) HOW.out ?_
      simp only [List.take_succ_cons, List.take_zero, List.drop_succ_cons, List.drop_zero]
      repeat (refine headS_step (fun K hK => ?_); go_simp; refine hK _ ?_; clear hK K)
      (refine headS_step (fun K hK => ?_); go_simp; refine ⟨_, fun zt => calls_stays (HZ.out _ (HBW.out.trans (by repeat (first | exact Below.refl _ _ | refine Below.drew ?_ | refine Below.alloc ?_ (by first | exact Nat.le_refl _ | (simp; done) | (simp; omega) | omega) _ | refine Below.more ?_ (by first | exact Nat.le_refl _ | (simp; done) | (simp; omega) | omega) _ _ | refine Below.setCell ?_ (by first | exact Nat.le_refl _ | (simp; done) | (simp; omega) | omega) _ | assumption)))), hK _ ?_⟩; clear hK K)
      repeat (refine headS_step (fun K hK => ?_); go_simp; refine hK _ ?_; clear hK K)
      (refine headS_step (fun K hK => ?_); go_simp; refine ⟨_, fun zt => calls_stays (HU.out _ (HBW.out.trans (by repeat (first | exact Below.refl _ _ | refine Below.drew ?_ | refine Below.alloc ?_ (by first | exact Nat.le_refl _ | (simp; done) | (simp; omega) | omega) _ | refine Below.more ?_ (by first | exact Nat.le_refl _ | (simp; done) | (simp; omega) | omega) _ _ | refine Below.setCell ?_ (by first | exact Nat.le_refl _ | (simp; done) | (simp; omega) | omega) _ | assumption)))), hK _ ?_⟩; clear hK K)
      repeat (refine headS_step (fun K hK => ?_); go_simp; refine hK _ ?_; clear hK K)
      refine headS_nil ?_
      refine tail_app2 (t := 28) _ _ (by go_simp) (fun w => by go_simp) (fun b => by go_simp) rfl Try.underlying28 hi hz0 hz1 hz2 rfl (by decide) (fun b => by first | rfl | go_simp) (fun b => by first | rfl | go_simp) rfl ?h1 (by decide) (by decide) (fun b v' => ?hr)
      case h1 =>
        intro u hu
        simp only [List.mem_cons, List.not_mem_nil, or_false] at hu
        rcases hu with rfl | rfl | rfl | rfl | rfl | rfl <;> rfl
      refine app2_quiet (u := v') (by go_simp) (fun w => by go_simp) ?_
      refine app2_done (fun X1 d1 hown1 => ?_)
      simp only [Act.put, List.setIfInBounds_toArray, List.set_cons_zero, List.set_cons_succ]
      obtain ⟨a4, c4, rfl, hsl⟩ := sl_of_own hown1 HAT.out
      have HSL := Lib.hid hsl
      clear hown1 hsl q0 q1 f0 f1
      go_wp2_with (first | (go_at_call 63; refine (HAV.out _ _ _ (HSL.out.below (by repeat (first | exact Below.refl _ _ | refine Below.drew ?_ | refine Below.alloc ?_ (by first | exact Nat.le_refl _ | (simp; done) | (simp; omega) | omega) _ | refine Below.more ?_ (by first | exact Nat.le_refl _ | (simp; done) | (simp; omega) | omega) _ _ | refine Below.setCell ?_ (by first | exact Nat.le_refl _ | (simp; done) | (simp; omega) | omega) _ | assumption)))).mono ?_; rintro e wn ⟨rfl, hbn⟩; obtain ⟨X, nX, rfl⟩ := Below.ext hbn; clear hbn) | (go_at_call 62; refine (l07By_c S0 S1 S2 4 _ ⟨by have := HIN.out; omega, by have := HIN.out; omega⟩ ⟨by have := HIN.out; omega, by have := HIN.out; omega⟩ ⟨by have := HIN.out; omega, by have := HIN.out; omega⟩).mono ?_; rintro e wn ⟨rfl, hbn⟩; obtain ⟨X, nX, rfl⟩ := Below.ext hbn; clear hbn))
      exact bodyPost_ret (v := vecV (fdivI S0 4) (fdivI S1 4) (fdivI S2 4)) (by simp [results, Try.results37, go_sem, s0, s1, s2, t0, t1, t2, y1]) rfl ⟨rfl, Below.trans HBW.out (by repeat (first | exact Below.refl _ _ | refine Below.drew ?_ | refine Below.alloc ?_ (by first | exact Nat.le_refl _ | (simp; done) | (simp; omega) | omega) _ | refine Below.more ?_ (by first | exact Nat.le_refl _ | (simp; done) | (simp; omega) | omega) _ _ | refine Below.setCell ?_ (by first | exact Nat.le_refl _ | (simp; done) | (simp; omega) | omega) _ | assumption))⟩
    · have hq1 : ((on.length : Int) == 2) = false := by simp; omega
      have HE := Lib.hid (show epV p ix iy on = meanL [vtx p ix, vtx p iy] 2 2 from by simp [epV, epL, h2])
      have HB := Lib.hid (two_B hB1 hB2)
      clear HFC hB1 hB2 hon h2 h0
      have HAT := Lib.hid (at_two (x := vtx p ix) (y := vtx p iy))
      have HAV := Lib.hid (fun a cap W h => l07SumL_c a cap [vtx p ix, vtx p iy] 2 W HB.out (by omega) h)
      have HIN := Lib.hid (And.intro (sumL_in0 HB.out (by omega) (Nat.le_refl 2)) (And.intro (sumL_in1 HB.out (by omega) (Nat.le_refl 2)) (sumL_in2 HB.out (by omega) (Nat.le_refl 2))))
      have HTW := Lib.hid (fun W bs h => own_two W (vtx p ix) (vtx p iy) bs h)
      rw [HE.out, meanL]
      clear HE HB
      generalize sumL (·.f0) [vtx p ix, vtx p iy] 2 = S0 at *
      generalize sumL (·.f1) [vtx p ix, vtx p iy] 2 = S1 at *
      generalize sumL (·.f2) [vtx p ix, vtx p iy] 2 = S2 at *
      generalize vtx p ix = vx at *
      generalize vtx p iy = vy at *
      obtain ⟨x0, x1, x2⟩ := vx
      obtain ⟨y0, y1', y2⟩ := vy
      dsimp only at c0 c1 c2 d0 d1 d2 HAT HTW
      go_enter Try.func37, Try.ntmps37
      go_wp2_with (go_at_call 28; refine (HEF.out _ (by repeat (first | exact Below.refl _ _ | refine Below.drew ?_ | refine Below.alloc ?_ (by first | exact Nat.le_refl _ | (simp; done) | (simp; omega) | omega) _ | refine Below.more ?_ (by first | exact Nat.le_refl _ | (simp; done) | (simp; omega) | omega) _ _ | refine Below.setCell ?_ (by first | exact Nat.le_refl _ | (simp; done) | (simp; omega) | omega) _ | assumption))).mono ?_; rintro e wq ⟨fa, fc, rfl, ho, hbq⟩; have HO := Lib.hid ho; have q0 := cell_below hbq (show World.cell? _ ⟨w.heap.size, 0, none⟩ = some (.slice (some ⟨b, o, none⟩) p.nV c) by simp [go_sem]); have q1 := cell_below hbq (show World.cell? _ ⟨w.heap.size, 1, none⟩ = some (.slice a' p.nF c') by simp [go_sem]); have s0 := cell_below hbq (show World.cell? _ ⟨w.heap.size + 1, 0, none⟩ = some (.int .i64 0) by simp [go_sem]); have s1 := cell_below hbq (show World.cell? _ ⟨w.heap.size + 1, 1, none⟩ = some (.int .i64 0) by simp [go_sem]); have s2 := cell_below hbq (show World.cell? _ ⟨w.heap.size + 1, 2, none⟩ = some (.int .i64 0) by simp [go_sem]); have t0 := frozen_below hbq (show World.cell? _ ⟨w.heap.size + 1, 0, none⟩ = some (.int .i64 0) by simp [go_sem]) (by simp [go_sem]); have t1 := frozen_below hbq (show World.cell? _ ⟨w.heap.size + 1, 1, none⟩ = some (.int .i64 0) by simp [go_sem]) (by simp [go_sem]); have t2 := frozen_below hbq (show World.cell? _ ⟨w.heap.size + 1, 2, none⟩ = some (.int .i64 0) by simp [go_sem]) (by simp [go_sem]); have HBW := Lib.hid (Below.trans (show Below w.heap.size w _ from (by repeat (first | exact Below.refl _ _ | refine Below.drew ?_ | refine Below.alloc ?_ (by first | exact Nat.le_refl _ | (simp; done) | (simp; omega) | omega) _ | refine Below.more ?_ (by first | exact Nat.le_refl _ | (simp; done) | (simp; omega) | omega) _ _ | refine Below.setCell ?_ (by first | exact Nat.le_refl _ | (simp; done) | (simp; omega) | omega) _ | assumption))) (hbq.mono (by simp; try omega))); have y1 := World.block_lt_of_cell? _ _ s0; have w0 := World.block_lt_of_cell? _ _ q0; replace c0 := cell_below HBW.out c0; replace c1 := cell_below HBW.out c1; replace c2 := cell_below HBW.out c2; replace d0 := cell_below HBW.out d0; replace d1 := cell_below HBW.out d1; replace d2 := cell_below HBW.out d2; have wb := World.block_lt_of_cell? _ _ c0; clear ho hbq)
      clear HO
      ((first | refine region_qt2 10 (by kernel_rfl) (by kernel_rfl) ?_ | refine region_qt 10 (by kernel_rfl) (by kernel_rfl) ?_); simp only [List.take_succ_cons, List.take_zero, List.drop_succ_cons, List.drop_zero])
      repeat (quiet_step (fail))
      (refine wpQuiet_nil ?_; intro X nX)
      go_wp2_with fail
      have HOW := Lib.hid (HTW.out (more wq X nX) wq.heap.size (by simp))
      have hsz2 : (more wq X nX).heap.size = wq.heap.size + X.size := by simp
      rw [hsz2, more_alloc] at HOW
      rw [more_alloc]
      clear HTW hsz2
      generalize wq.heap.size + X.size = g at *
      generalize X.push (.cells #[.int .i64 x0, .int .i64 x1, .int .i64 x2, .int .i64 y0, .int .i64 y1', .int .i64 y2] 35) = X0 at *
      obtain ⟨a4, c4, hv4, hsl⟩ := sl_of_own HOW.out HAT.out
      simp only [Value.slice.injEq, true_and] at hv4
      obtain ⟨rfl, rfl⟩ := hv4
      have HSL := Lib.hid hsl
      clear hsl q0 q1
      go_wp2_with (first | (go_at_call 63; refine (HAV.out _ _ _ (HSL.out.below (by repeat (first | exact Below.refl _ _ | refine Below.drew ?_ | refine Below.alloc ?_ (by first | exact Nat.le_refl _ | (simp; done) | (simp; omega) | omega) _ | refine Below.more ?_ (by first | exact Nat.le_refl _ | (simp; done) | (simp; omega) | omega) _ _ | refine Below.setCell ?_ (by first | exact Nat.le_refl _ | (simp; done) | (simp; omega) | omega) _ | assumption)))).mono ?_; rintro e wn ⟨rfl, hbn⟩; obtain ⟨X, nX, rfl⟩ := Below.ext hbn; clear hbn) | (go_at_call 62; refine (l07By_c S0 S1 S2 2 _ ⟨by have := HIN.out; omega, by have := HIN.out; omega⟩ ⟨by have := HIN.out; omega, by have := HIN.out; omega⟩ ⟨by have := HIN.out; omega, by have := HIN.out; omega⟩).mono ?_; rintro e wn ⟨rfl, hbn⟩; obtain ⟨X, nX, rfl⟩ := Below.ext hbn; clear hbn))
      exact bodyPost_ret (v := vecV (fdivI S0 2) (fdivI S1 2) (fdivI S2 2)) (by simp [results, Try.results37, go_sem, s0, s1, s2, t0, t1, t2, y1]) rfl ⟨rfl, Below.trans HBW.out (by repeat (first | exact Below.refl _ _ | refine Below.drew ?_ | refine Below.alloc ?_ (by first | exact Nat.le_refl _ | (simp; done) | (simp; omega) | omega) _ | refine Below.more ?_ (by first | exact Nat.le_refl _ | (simp; done) | (simp; omega) | omega) _ _ | refine Below.setCell ?_ (by first | exact Nat.le_refl _ | (simp; done) | (simp; omega) | omega) _ | assumption))⟩
end Go.Proofs.Ytbmhehjllchpoaa
