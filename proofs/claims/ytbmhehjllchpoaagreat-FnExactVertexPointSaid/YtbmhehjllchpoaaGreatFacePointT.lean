/- Contract of the reference's FacePoint. -/
import Derived.Test.YtbmhehjllchpoaaGreatFacePointS
namespace Go.Proofs.YtbmhehjllchpoaaGreat
open Go Go.RowKit
def fvAt (l : List VecD) (f : List Int) (j : Nat) : List Value := (l.getD (f.getD j 0).toNat default).cells
set_option maxRecDepth 100000 in
set_option maxHeartbeats 2000000 in
theorem spec_FacePoint_c (v : Value) (p : MeshD) (x : Int) (w : World) (hr : MeshR w v p) (hs : MeshSz 1048576 p) :
    Calls Tryz.prog 19 #[v, .int .i64 x] w fun e w' => e = .returned (fpR p x) ∧ Below w.heap.size w w' := by
  have HM := Lib.hid hr
  have HS := Lib.hid hs
  obtain ⟨a, c, a', c', rfl, h1, ⟨A, K, h2, h3, h4⟩⟩ := hr
  have hs2 := hs.2.1
  have hs1 := hs.1
  clear hs h4
  cases hok : meshOkB p
  · have HE := Lib.hid (fpR_no (p := p) (x := x) (fun h => by rw [meshOkB_true.2 h.1] at hok; cases hok))
    have HOK := Lib.hid hok
    clear hok h1 h2 h3
    go_enter Tryz.func19, Tryz.ntmps19
    go_wp2_with (go_at_call 12; refine (spec_IsValidMesh_c _ p _ (HM.out.below (by repeat (first | exact Below.refl _ _ | refine Below.drew ?_ | refine Below.alloc ?_ (by first | exact Nat.le_refl _ | (simp; done) | (simp; omega) | omega) _ | refine Below.more ?_ (by first | exact Nat.le_refl _ | (simp; done) | (simp; omega) | omega) _ _ | refine Below.setCell ?_ (by first | exact Nat.le_refl _ | (simp; done) | (simp; omega) | omega) _ | assumption))) HS.out).mono ?_; rw [HOK.out]; rintro e wn ⟨rfl, hbn⟩; obtain ⟨X, nX, rfl⟩ := Below.ext hbn; clear hbn)
    exact bodyPost_ret (v := vecV 0 0 0) (by simp [results, Tryz.results19, go_sem]) rfl ⟨by rw [HE.out], (by repeat (first | exact Below.refl _ _ | refine Below.drew ?_ | refine Below.alloc ?_ (by first | exact Nat.le_refl _ | (simp; done) | (simp; omega) | omega) _ | refine Below.more ?_ (by first | exact Nat.le_refl _ | (simp; done) | (simp; omega) | omega) _ _ | refine Below.setCell ?_ (by first | exact Nat.le_refl _ | (simp; done) | (simp; omega) | omega) _ | assumption))⟩
  · have HOK := Lib.hid hok
    have HMO := Lib.hid (meshOkB_true.1 hok)
    have hwrap : IntKind.i64.wrap ((p.nF : Int) - 1) = (p.nF : Int) - 1 := IntWalk.i64_in _ (by omega)
    clear hok
    cases hin : inB x 0 ((p.nF : Int) - 1)
    · have HE := Lib.hid (fpR_no (p := p) (x := x) (fun h => inB_false.1 hin h.2))
      clear h1 h2 h3
      go_enter Tryz.func19, Tryz.ntmps19
      go_wp2_with (first | (go_at_call 12; refine (spec_IsValidMesh_c _ p _ (HM.out.below (by repeat (first | exact Below.refl _ _ | refine Below.drew ?_ | refine Below.alloc ?_ (by first | exact Nat.le_refl _ | (simp; done) | (simp; omega) | omega) _ | refine Below.more ?_ (by first | exact Nat.le_refl _ | (simp; done) | (simp; omega) | omega) _ _ | refine Below.setCell ?_ (by first | exact Nat.le_refl _ | (simp; done) | (simp; omega) | omega) _ | assumption))) HS.out).mono ?_; rw [HOK.out]; rintro e wn ⟨rfl, hbn⟩; obtain ⟨X, nX, rfl⟩ := Below.ext hbn; clear hbn) | (go_at_call 13; refine (l01In_c _ _ _ _).mono ?_; rw [hin]; rintro e w' ⟨rfl, rfl⟩))
      exact bodyPost_ret (v := vecV 0 0 0) (by simp [results, Tryz.results19, go_sem]) rfl ⟨by rw [HE.out], (by repeat (first | exact Below.refl _ _ | refine Below.drew ?_ | refine Below.alloc ?_ (by first | exact Nat.le_refl _ | (simp; done) | (simp; omega) | omega) _ | refine Below.more ?_ (by first | exact Nat.le_refl _ | (simp; done) | (simp; omega) | omega) _ _ | refine Below.setCell ?_ (by first | exact Nat.le_refl _ | (simp; done) | (simp; omega) | omega) _ | assumption))⟩
    · obtain ⟨hx0, hx1⟩ := inB_true.1 hin
      have HE := Lib.hid (fpR_yes (p := p) (x := x) ⟨HMO.out, hx0, hx1⟩)
      obtain ⟨k, rfl⟩ := Int.eq_ofNat_of_zero_le hx0
      rw [Int.toNat_natCast] at HE
      have hk : k < p.nF := by omega
      have hk1 : (k : Int) < (p.nF : Int) := by omega
      have HFV := Lib.hid (faceV_of HMO.out hk)
      have HVM := Lib.hid (fun (W : World) (hb : Below w.heap.size w W) (g0 : W.cell? ⟨w.heap.size, 0, none⟩ = some (.slice a p.nV c)) (g1 : W.cell? ⟨w.heap.size, 1, none⟩ = some (.slice a' p.nF c')) (g2 : W.heap[w.heap.size + 1]? = some (.cells #[.int .i64 0, .int .i64 0, .int .i64 0] 28 (0, 0))) => show Calls Tryz.prog 12 #[.agg #[.slice a p.nV c, .slice a' p.nF c']] W (fun e w' => e = .returned (.bool true) ∧ w'.cell? ⟨w.heap.size, 0, none⟩ = some (.slice a p.nV c) ∧ w'.cell? ⟨w.heap.size, 1, none⟩ = some (.slice a' p.nF c') ∧ w'.heap[w.heap.size + 1]? = some (.cells #[.int .i64 0, .int .i64 0, .int .i64 0] 28 (0, 0)) ∧ Below w.heap.size w w') from
        (spec_IsValidMesh_c _ p W (HM.out.below hb) HS.out).mono fun e w' h => ⟨by rw [h.1, HOK.out], cell_below h.2 g0, cell_below h.2 g1, (h.2.block _ (Array.getElem?_eq_some_iff.1 g2).1).trans g2, hb.trans (h.2.mono hb.size)⟩)
      rw [HE.out]
      clear HE HM HS HOK HMO
      generalize p.nV = n at *
      generalize p.nF = m at *
      generalize p.verts = l at *
      generalize p.faces = s at *
      obtain ⟨b, o, rfl, hb, hc⟩ := h2 (by omega)
      have c0 : w.cell? ⟨b, o + k, none⟩ = some (.slice (A k) (faceAt s k).length (K k)) := by have := hc k hk 0 (by omega); rw [Nat.mul_one, Nat.add_zero] at this; exact this
      clear hc h2
      have hsl := h3 k hk
      clear h3
      generalize A k = ak at *
      generalize K k = kk at *
      generalize faceAt s k = f at *
      rw [HFV.out.len] at c0 hsl
      have HSL := Lib.hid hsl
      have HV := Lib.hid h1
      clear hsl h1
      obtain ⟨i0, hi, hz0, hz1, hz2⟩ := info_parts info_Vec
      go_enter Tryz.func19, Tryz.ntmps19
      go_wp2_with (first | (go_at_call 12; go_loud (refine (HVM.out _ (by repeat (first | exact Below.refl _ _ | refine Below.drew ?_ | refine Below.alloc ?_ (by first | exact Nat.le_refl _ | (simp; done) | (simp; omega) | omega) _ | refine Below.more ?_ (by first | exact Nat.le_refl _ | (simp; done) | (simp; omega) | omega) _ _ | refine Below.setCell ?_ (by first | exact Nat.le_refl _ | (simp; done) | (simp; omega) | omega) _ | assumption)) (by simp [go_sem]) (by simp [go_sem]) (heap_at_new (by simp))).mono ?_; rintro e wn ⟨rfl, g0, g1, g2, hb0⟩; have c1 := cell_below hb0 c0; have g3 : w.heap.size + 1 < wn.heap.size := (Array.getElem?_eq_some_iff.1 g2).1; have g4 : b < wn.heap.size := Nat.lt_of_lt_of_le hb hb0.size; have g5 : w.heap.size < wn.heap.size := Nat.lt_of_succ_lt g3; have HB0 := Lib.hid hb0; clear hb0)) | (go_at_call 13; refine (l01In_c _ _ _ _).mono ?_; rw [hin]; rintro e w' ⟨rfl, rfl⟩))
      go_loopw [5, 28] (fun out i wr => ∃ (j : Nat), j ≤ 4 ∧ i = .int .i64 j ∧ Below w.heap.size w wr ∧ wr.cell? ⟨w.heap.size, 0, none⟩ = some (.slice a n c) ∧ wr.heap[w.heap.size + 1]? = some (.cells #[.int .i64 0, .int .i64 0, .int .i64 0] 28 (0, 0)) ∧ wr.ownsRow (w.heap.size + 2) 28 3 out j (flat 3 j (fvAt l f))) (fun _ i _ => 4 - (intOf i).toNat)
      case atStart =>
        refine ⟨0, by omega, rfl, Below.trans HB0.out (by repeat (first | exact Below.refl _ _ | refine Below.drew ?_ | refine Below.alloc ?_ (by first | exact Nat.le_refl _ | (simp; done) | (simp; omega) | omega) _ | refine Below.more ?_ (by first | exact Nat.le_refl _ | (simp; done) | (simp; omega) | omega) _ _ | refine Below.setCell ?_ (by first | exact Nat.le_refl _ | (simp; done) | (simp; omega) | omega) _ | assumption)), cell_below (show Below wn.heap.size wn _ from (by repeat (first | exact Below.refl _ _ | refine Below.drew ?_ | refine Below.alloc ?_ (by first | exact Nat.le_refl _ | (simp; done) | (simp; omega) | omega) _ | refine Below.more ?_ (by first | exact Nat.le_refl _ | (simp; done) | (simp; omega) | omega) _ _ | refine Below.setCell ?_ (by first | exact Nat.le_refl _ | (simp; done) | (simp; omega) | omega) _ | assumption))) g0, (heap_alloc_old _ _ g3).trans g2, ?_⟩
        exact World.ownsRow_made (e := 28) (size := 3) (base := w.heap.size + 2) wn #[] 0 (by omega) (by decide) (by simp)
      case round =>
        clear HB0 g0 g1 g2 g3 g4 g5 c1
        obtain ⟨j, hj, rfl, hbel, q0, g2, hown⟩ := hrel
        have HBEL := Lib.hid hbel
        have HOWN := Lib.hid hown
        have HG2 := Lib.hid g2
        have y1 : w.heap.size + 1 < wr.heap.size := (Array.getElem?_eq_some_iff.1 g2).1
        have y0 : w.heap.size < wr.heap.size := by omega
        clear hbel hown g2
        by_cases hjl : j < 4
        · have hj1 : (j : Int) < 4 := by omega
          obtain ⟨i, hi', hin'⟩ := HFV.out.ix j hjl
          have hin1 : (i : Int) < (n : Int) := by omega
          obtain ⟨b1, o1, e, hb1, hc1⟩ := HSL.out.below HBEL.out (by omega)
          subst e
          have d0 : wr.cell? ⟨b1, o1 + j, none⟩ = some (.int .i64 (i : Int)) := by
            have := hc1 j hjl 0 (by omega)
            rw [Nat.mul_one, Nat.add_zero] at this
            rw [this, ← hi']; simp [intAt]
          clear hc1
          obtain ⟨b2, o2, e2, hb2, hc2⟩ := HV.out.below HBEL.out (by omega)
          subst e2
          have e0 : wr.cell? ⟨b2, o2 + i * 3, none⟩ = some (.int .i64 (l.getD i default).f0) := hc2 i hin' 0 (by omega)
          have e1 : wr.cell? ⟨b2, o2 + i * 3 + 1, none⟩ = some (.int .i64 (l.getD i default).f1) := hc2 i hin' 1 (by omega)
          have e2 : wr.cell? ⟨b2, o2 + i * 3 + 2, none⟩ = some (.int .i64 (l.getD i default).f2) := hc2 i hin' 2 (by omega)
          clear hc2
          have HST := Lib.hid (show flat 3 (j + 1) (fvAt l f) = flat 3 j (fvAt l f) ++ [.int .i64 (l.getD i default).f0, .int .i64 (l.getD i default).f1, .int .i64 (l.getD i default).f2] by
            rw [flat_succ, fvAt, hi', Int.toNat_natCast])
          clear hi'
          generalize l.getD i default = xx at *
          obtain ⟨x, y, z⟩ := xx
          dsimp only at e0 e1 e2 HST
          generalize flat 3 j (fvAt l f) = xs at *
          go_wp2_with (at_builtin; go_loud (refine wpList_append_any _ rfl _ _ 30 rfl (w.heap.size + 2) 28 i0 _ 3 24 Tryz.underlying30 hi hz0 hz1 hz2 rfl (by decide) _ _ _ rfl (own_kept HOWN.out (by repeat (first | exact Below.refl _ _ | refine Below.drew ?_ | refine Below.alloc ?_ (by first | exact Nat.le_refl _ | (simp; done) | (simp; omega) | omega) _ | refine Below.more ?_ (by first | exact Nat.le_refl _ | (simp; done) | (simp; omega) | omega) _ _ | refine Below.setCell ?_ (by first | exact Nat.le_refl _ | (simp; done) | (simp; omega) | omega) _ | assumption))) _ 1 1 [.int .i64 x, .int .i64 y, .int .i64 z] rfl rfl ?b2 ?b3 ?b4 ?b5 ?b6 ?_))
          case b2 =>
            intro j u hu
            match j, hu with
            | 0, hu =>
              obtain rfl : Value.int .i64 x = u := by simpa using hu
              simp [go_sem]
            | 1, hu =>
              obtain rfl : Value.int .i64 y = u := by simpa using hu
              simp [go_sem]
            | 2, hu =>
              obtain rfl : Value.int .i64 z = u := by simpa using hu
              simp [go_sem]
            | j + 3, hu => simp at hu
          case b3 =>
            intro u hu
            simp only [List.mem_cons, List.not_mem_nil, or_false] at hu
            rcases hu with rfl | rfl | rfl <;> rfl
          case b4 => simp only [maxLen]; omega
          case b5 => omega
          case b6 => first | omega | (simp; omega)
          intro v' w' hp' hb'
          have HP' := Lib.hid hp'
          have HB1 := Lib.hid (Below.trans (show Below (w.heap.size + 2) wr _ from (by repeat (first | exact Below.refl _ _ | refine Below.drew ?_ | refine Below.alloc ?_ (by first | exact Nat.le_refl _ | (simp; done) | (simp; omega) | omega) _ | refine Below.more ?_ (by first | exact Nat.le_refl _ | (simp; done) | (simp; omega) | omega) _ _ | refine Below.setCell ?_ (by first | exact Nat.le_refl _ | (simp; done) | (simp; omega) | omega) _ | assumption))) hb')
          clear hp' hb'
          have z0 := (HB1.out.cell (p := ⟨w.heap.size, 0, none⟩) (by simp)).trans q0
          have z1 := (HB1.out.block (w.heap.size + 1) (by omega)).trans HG2.out
          go_wp2
          refine ⟨⟨j + 1, by omega, rfl, Below.trans HBEL.out (HB1.out.mono (by omega)), z0, z1, ?_⟩, by simp only [intOf]; omega⟩
          rw [HST.out]
          exact HP'.out
        · have hj1 : ¬ (j : Int) < 4 := by omega
          obtain rfl : j = 4 := by omega
          obtain ⟨ao, co, hov, how⟩ := ow_of_ownsRow HOWN.out (flat_get (fun _ _ => rfl))
          subst hov
          have HOW := Lib.hid (show Sl wr ao 3 4 (fun j => (l.getD (f.getD j 0).toNat default).cells) from how.sl)
          clear how HOWN
          have t0 := sum_in (j := 4) (by omega) HFV.out.b0
          have t1 := sum_in (j := 4) (by omega) HFV.out.b1
          have t2 := sum_in (j := 4) (by omega) HFV.out.b2
          have r0 : wr.cell? ⟨w.heap.size + 1, 0, none⟩ = some (.int .i64 0) := by rw [cell_of_row _ _ 0 _ _ (0, 0) HG2.out]; rfl
          have r1 : wr.cell? ⟨w.heap.size + 1, 1, none⟩ = some (.int .i64 0) := by rw [cell_of_row _ _ 1 _ _ (0, 0) HG2.out]; rfl
          have r2 : wr.cell? ⟨w.heap.size + 1, 2, none⟩ = some (.int .i64 0) := by rw [cell_of_row _ _ 2 _ _ (0, 0) HG2.out]; rfl
          have x0 : wr.frozen? ⟨w.heap.size + 1, 0, none⟩ = false := frozen_of_row _ _ 0 _ _ HG2.out
          have x1 : wr.frozen? ⟨w.heap.size + 1, 1, none⟩ = false := frozen_of_row _ _ 1 _ _ HG2.out
          have x2 : wr.frozen? ⟨w.heap.size + 1, 2, none⟩ = false := frozen_of_row _ _ 2 _ _ HG2.out
          have HFP := Lib.hid (show fpV l f = vecV (fdivI (sumTo l (·.f0) f 4) 4) (fdivI (sumTo l (·.f1) f 4) 4) (fdivI (sumTo l (·.f2) f 4) 4) from rfl)
          have HSU := Lib.hid (l07Sum_c ao co l f n wr HFV.out HOW.out)
          generalize sumTo l (·.f0) f 4 = S0 at *
          generalize sumTo l (·.f1) f 4 = S1 at *
          generalize sumTo l (·.f2) f 4 = S2 at *
          go_wp2_with (first | (go_at_call 16; refine HSU.out.mono ?_; rintro e wn ⟨rfl, hbn⟩; obtain ⟨X, nX, rfl⟩ := Below.ext hbn; clear hbn) | (go_at_call 15; refine (l07By_c S0 S1 S2 4 _ ⟨by omega, by omega⟩ ⟨by omega, by omega⟩ ⟨by omega, by omega⟩).mono ?_; rintro e wn ⟨rfl, hbn⟩; obtain ⟨X, nX, rfl⟩ := Below.ext hbn; clear hbn))
          exact bodyPost_ret (v := vecV (fdivI S0 4) (fdivI S1 4) (fdivI S2 4)) (by simp [results, Tryz.results19, go_sem, y1, r0, r1, r2, x0, x1, x2]) rfl ⟨by rw [HFP.out], Below.trans HBEL.out (by repeat (first | exact Below.refl _ _ | refine Below.drew ?_ | refine Below.alloc ?_ (by first | exact Nat.le_refl _ | (simp; done) | (simp; omega) | omega) _ | refine Below.more ?_ (by first | exact Nat.le_refl _ | (simp; done) | (simp; omega) | omega) _ _ | refine Below.setCell ?_ (by first | exact Nat.le_refl _ | (simp; done) | (simp; omega) | omega) _ | assumption))⟩
end Go.Proofs.YtbmhehjllchpoaaGreat
