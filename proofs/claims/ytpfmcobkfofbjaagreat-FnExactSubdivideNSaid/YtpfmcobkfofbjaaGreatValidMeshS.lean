/- Contract of the reference's IsValidMesh. -/
import Derived.Test.YtpfmcobkfofbjaaGreatValidMesh
namespace Go.Proofs.YtpfmcobkfofbjaaGreat
open Go Go.RowKit
set_option maxRecDepth 100000 in
set_option maxHeartbeats 4000000 in
theorem spec_IsValidMesh_c (v : Value) (p : MeshD) (w : World) (hr : MeshR w v p) (hs : MeshSz 1048576 p) :
    Calls Tryz.prog 17 #[v] w fun e w' => e = .returned (.bool (meshOkB p)) ∧ Below w.heap.size w w' := by
  obtain ⟨a, c, a', c', rfl, h1, ⟨A, K, h2, h3, h4⟩⟩ := hr
  obtain ⟨hs1, hs2, hs3⟩ := hs
  have VB := Lib.hid (fun h => mesh_bigV (p := p) h)
  have FB := Lib.hid (fun h => mesh_bigF (p := p) h)
  have VV := Lib.hid (fun i h hn => mesh_vert (p := p) (i := i) h hn)
  have FF := Lib.hid (fun i h hn => mesh_face (p := p) (i := i) h hn)
  have FD := Lib.hid (fun k j hk hj h => mesh_dup (p := p) (k := k) (j := j) hk hj h)
  have ALL := Lib.hid (fun g1 g2 g3 g4 g5 => mesh_all (p := p) g1 g2 g3 g4 g5)
  generalize meshOkB p = r at *
  generalize p.nV = n at *
  generalize p.nF = m at *
  generalize p.verts = l at *
  generalize p.faces = s at *
  have HV := Lib.hid h1
  have HF := Lib.hid h2
  have HQ := Lib.hid h3
  have HSZ := Lib.hid hs3
  have HCAP := Lib.hid h4
  clear h1 h2 h3 h4 hs3
  by_cases hb1 : (80 : Int) < (n : Int)
  · have HR := Lib.hid (VB.out (by omega))
    go_enter Tryz.func17, Tryz.ntmps17
    go_wp2
    go_ret
    exact ⟨ret_bool HR.out.symm, (by repeat (first | exact Below.refl _ _ | refine Below.drew ?_ | refine Below.alloc ?_ (by first | exact Nat.le_refl _ | (simp; done) | (simp; omega) | omega) _ | refine Below.more ?_ (by first | exact Nat.le_refl _ | (simp; done) | (simp; omega) | omega) _ _ | refine Below.setCell ?_ (by first | exact Nat.le_refl _ | (simp; done) | (simp; omega) | omega) _ | assumption))⟩
  by_cases hb2 : (64 : Int) < (m : Int)
  · have HR := Lib.hid (FB.out (by omega))
    go_enter Tryz.func17, Tryz.ntmps17
    go_wp2
    go_ret
    exact ⟨ret_bool HR.out.symm, (by repeat (first | exact Below.refl _ _ | refine Below.drew ?_ | refine Below.alloc ?_ (by first | exact Nat.le_refl _ | (simp; done) | (simp; omega) | omega) _ | refine Below.more ?_ (by first | exact Nat.le_refl _ | (simp; done) | (simp; omega) | omega) _ _ | refine Below.setCell ?_ (by first | exact Nat.le_refl _ | (simp; done) | (simp; omega) | omega) _ | assumption))⟩
  go_enter Tryz.func17, Tryz.ntmps17
  go_wp2
  go_loopw [25] (fun i wr => ∃ (k : Nat), k ≤ n ∧ i = .int .i64 k ∧ Hid (∀ j, j < k → vecOkD (l.getD j default) = true) ∧ Below w.heap.size w wr ∧ wr.cell? ⟨w.heap.size, 0, none⟩ = some (.slice a n c) ∧ wr.cell? ⟨w.heap.size, 1, none⟩ = some (.slice a' m c')) (fun i _ => n - (intOf i).toNat)
  case atStart => exact ⟨0, by omega, rfl, Lib.hid (fun j hj => by omega), (by repeat (first | exact Below.refl _ _ | refine Below.drew ?_ | refine Below.alloc ?_ (by first | exact Nat.le_refl _ | (simp; done) | (simp; omega) | omega) _ | refine Below.more ?_ (by first | exact Nat.le_refl _ | (simp; done) | (simp; omega) | omega) _ _ | refine Below.setCell ?_ (by first | exact Nat.le_refl _ | (simp; done) | (simp; omega) | omega) _ | assumption)), by simp [go_sem], by simp [go_sem]⟩
  case round =>
    obtain ⟨k, hk, rfl, HALL, hbel, q0, q1⟩ := hrel
    have HBEL := Lib.hid hbel
    have y1 : w.heap.size < wr.heap.size := World.block_lt_of_cell? _ _ q0
    clear hbel
    by_cases hlt : k < n
    · have hk1 : (k : Int) < (n : Int) := by omega
      obtain ⟨b, o, e, hb, hc⟩ := HV.out.below HBEL.out (by omega)
      subst e
      have c0 : wr.cell? ⟨b, o + k * 3, none⟩ = some (.int .i64 (l.getD k default).f0) := hc k hlt 0 (by omega)
      have c1 : wr.cell? ⟨b, o + k * 3 + 1, none⟩ = some (.int .i64 (l.getD k default).f1) := hc k hlt 1 (by omega)
      have c2 : wr.cell? ⟨b, o + k * 3 + 2, none⟩ = some (.int .i64 (l.getD k default).f2) := hc k hlt 2 (by omega)
      clear hc
      have HNO := Lib.hid (fun h => VV.out k hlt h)
      have HYES := Lib.hid (show vecOkD (l.getD k default) = true → ∀ j, j < k + 1 → vecOkD (l.getD j default) = true from fun h j hj => by
        by_cases hjk : j = k
        · subst hjk; exact h
        · exact HALL.out j (by omega))
      have HE := Lib.hid (show vecOkD (l.getD k default) = vecOk (l.getD k default).f0 (l.getD k default).f1 (l.getD k default).f2 from rfl)
      generalize vecOkD (l.getD k default) = ok at *
      generalize l.getD k default = x at *
      obtain ⟨x0, x1, x2⟩ := x
      dsimp only at c0 c1 c2 HE
      cases ok
      · go_wp2_with (go_at_call 46; refine (spec_IsValidVec x0 x1 x2 _).mono ?_; rw [← HE.out]; rintro e wn ⟨rfl, hbn⟩; obtain ⟨X, nX, rfl⟩ := Below.ext hbn; clear hbn)
        go_ret
        exact ⟨ret_bool (HNO.out (by first | rfl | trivial)).symm, Below.trans HBEL.out (by repeat (first | exact Below.refl _ _ | refine Below.drew ?_ | refine Below.alloc ?_ (by first | exact Nat.le_refl _ | (simp; done) | (simp; omega) | omega) _ | refine Below.more ?_ (by first | exact Nat.le_refl _ | (simp; done) | (simp; omega) | omega) _ _ | refine Below.setCell ?_ (by first | exact Nat.le_refl _ | (simp; done) | (simp; omega) | omega) _ | assumption))⟩
      · go_wp2_with (go_at_call 46; refine (spec_IsValidVec x0 x1 x2 _).mono ?_; rw [← HE.out]; rintro e wn ⟨rfl, hbn⟩; obtain ⟨X, nX, rfl⟩ := Below.ext hbn; clear hbn)
        refine ⟨⟨k + 1, by omega, rfl, Lib.hid (HYES.out (by first | rfl | trivial)), Below.trans HBEL.out (by repeat (first | exact Below.refl _ _ | refine Below.drew ?_ | refine Below.alloc ?_ (by first | exact Nat.le_refl _ | (simp; done) | (simp; omega) | omega) _ | refine Below.more ?_ (by first | exact Nat.le_refl _ | (simp; done) | (simp; omega) | omega) _ _ | refine Below.setCell ?_ (by first | exact Nat.le_refl _ | (simp; done) | (simp; omega) | omega) _ | assumption)), ?_, ?_⟩, by simp only [intOf]; omega⟩
        · first | exact q0 | (simp [go_sem, q0, y1]; done)
        · first | exact q1 | (simp [go_sem, q1, y1]; done)
    · have hk1 : ¬ (k : Int) < (n : Int) := by omega
      have HALLV := Lib.hid (fun i (hi : i < n) => HALL.out i (by omega))
      clear HALL
      go_wp2
      have HPR0 := Lib.hid (PairRow.nil (w := wr.alloc (.cells #[] 45)) (base := w.heap.size + 1) (g := wr.heap.size) (by omega) (heap_at_new rfl))
      have HB0 := Lib.hid (Below.trans HBEL.out (show Below w.heap.size wr (wr.alloc (.cells #[] 45)) from (by repeat (first | exact Below.refl _ _ | refine Below.drew ?_ | refine Below.alloc ?_ (by first | exact Nat.le_refl _ | (simp; done) | (simp; omega) | omega) _ | refine Below.more ?_ (by first | exact Nat.le_refl _ | (simp; done) | (simp; omega) | omega) _ _ | refine Below.setCell ?_ (by first | exact Nat.le_refl _ | (simp; done) | (simp; omega) | omega) _ | assumption))))
      have p0 := cell_below (show Below wr.heap.size wr (wr.alloc (.cells #[] 45)) from (by repeat (first | exact Below.refl _ _ | refine Below.drew ?_ | refine Below.alloc ?_ (by first | exact Nat.le_refl _ | (simp; done) | (simp; omega) | omega) _ | refine Below.more ?_ (by first | exact Nat.le_refl _ | (simp; done) | (simp; omega) | omega) _ _ | refine Below.setCell ?_ (by first | exact Nat.le_refl _ | (simp; done) | (simp; omega) | omega) _ | assumption))) q0
      have p1 := cell_below (show Below wr.heap.size wr (wr.alloc (.cells #[] 45)) from (by repeat (first | exact Below.refl _ _ | refine Below.drew ?_ | refine Below.alloc ?_ (by first | exact Nat.le_refl _ | (simp; done) | (simp; omega) | omega) _ | refine Below.more ?_ (by first | exact Nat.le_refl _ | (simp; done) | (simp; omega) | omega) _ _ | refine Below.setCell ?_ (by first | exact Nat.le_refl _ | (simp; done) | (simp; omega) | omega) _ | assumption))) q1
      clear q0 q1 HBEL y1
      go_loopw [5, 37] (fun out i wr => ∃ (k : Nat), k ≤ m ∧ i = .int .i64 k ∧ Hid (∀ j, j < k → faceOkB n (faceAt s j) = true) ∧ Hid (edgesTo s k).Nodup ∧ PairRow wr (w.heap.size + 1) out (edgesTo s k) ∧ Below w.heap.size w wr ∧ wr.cell? ⟨w.heap.size, 0, none⟩ = some (.slice a n c) ∧ wr.cell? ⟨w.heap.size, 1, none⟩ = some (.slice a' m c')) (fun _ i _ => m - (intOf i).toNat)
      case atStart => exact ⟨0, by omega, rfl, Lib.hid (fun j hj => by omega), Lib.hid List.nodup_nil, HPR0.out, HB0.out, p0, p1⟩
      case round =>
        clear HPR0 HB0 p0 p1
        obtain ⟨k, hk, rfl, HALL, HND, hes, hbel, q0, q1⟩ := hrel
        have HBEL := Lib.hid hbel
        have HES := Lib.hid hes
        have y1 : w.heap.size < wr.heap.size := World.block_lt_of_cell? _ _ q0
        clear hbel hes
        by_cases hlt : k < m
        · have hk1 : (k : Int) < (m : Int) := by omega
          obtain ⟨b, o, e, hb, hc⟩ := HF.out.below HBEL.out (by omega)
          subst e
          have c0 : wr.cell? ⟨b, o + k, none⟩ = some (.slice (A k) (faceAt s k).length (K k)) := by have := hc k hlt 0 (by omega); rw [Nat.mul_one, Nat.add_zero] at this; exact this
          clear hc
          have hsl : Sl wr (A k) 1 (faceAt s k).length (intAt (faceAt s k)) := (HQ.out k hlt).below HBEL.out
          have hsn := HSZ.out k hlt
          have hcap := HCAP.out k hlt
          have HNO := Lib.hid (fun h => FF.out k hlt h)
          have HDU := Lib.hid (fun j hj h => FD.out k j hlt hj h)
          have HYES := Lib.hid (show faceOkB n (faceAt s k) = true → ∀ j, j < k + 1 → faceOkB n (faceAt s j) = true from fun h j hj => by
            by_cases hjk : j = k
            · subst hjk; exact h
            · exact HALL.out j (by omega))
          have HSU := Lib.hid (edgesTo_succ s k)
          have HLEN := Lib.hid (edgesTo_len (l := s) (k := k) (fun i hi => mesh_len4 (HALL.out i hi)))
          generalize A k = ak at *
          generalize K k = kk at *
          generalize faceAt s k = f at *
          generalize edgesTo s k = L0 at *
          have HSL := Lib.hid hsl
          clear hsl
          generalize hq : f.length = q at *
          have HQL := Lib.hid hq
          clear hq
          cases hok : faceOkB n f
          · have HR := Lib.hid (HNO.out hok)
            go_wp2_with (go_at_call 47; refine (l06Face_c _ _ _ _ _ _ f q HQL hcap _ (HSL.out.below (by repeat (first | exact Below.refl _ _ | refine Below.drew ?_ | refine Below.alloc ?_ (by first | exact Nat.le_refl _ | (simp; done) | (simp; omega) | omega) _ | refine Below.more ?_ (by first | exact Nat.le_refl _ | (simp; done) | (simp; omega) | omega) _ _ | refine Below.setCell ?_ (by first | exact Nat.le_refl _ | (simp; done) | (simp; omega) | omega) _ | assumption))) hsn (by omega)).mono ?_; rw [hok]; rintro e wn ⟨rfl, hbn⟩; obtain ⟨X, nX, rfl⟩ := Below.ext hbn; clear hbn)
            go_ret
            exact ⟨ret_bool HR.out.symm, Below.trans HBEL.out (by repeat (first | exact Below.refl _ _ | refine Below.drew ?_ | refine Below.alloc ?_ (by first | exact Nat.le_refl _ | (simp; done) | (simp; omega) | omega) _ | refine Below.more ?_ (by first | exact Nat.le_refl _ | (simp; done) | (simp; omega) | omega) _ _ | refine Below.setCell ?_ (by first | exact Nat.le_refl _ | (simp; done) | (simp; omega) | omega) _ | assumption))⟩
          · obtain rfl : q = 4 := by rw [← HQL.out]; exact mesh_len4 hok
            have HYE := Lib.hid (HYES.out hok)
            have HOK := Lib.hid hok
            have HLT := Lib.hid (HES.out.lt)
            clear hok
            go_wp2_with (first | (go_at_call 47; refine (l06Face_c _ _ _ _ _ _ f 4 HQL hcap _ (HSL.out.below (by repeat (first | exact Below.refl _ _ | refine Below.drew ?_ | refine Below.alloc ?_ (by first | exact Nat.le_refl _ | (simp; done) | (simp; omega) | omega) _ | refine Below.more ?_ (by first | exact Nat.le_refl _ | (simp; done) | (simp; omega) | omega) _ _ | refine Below.setCell ?_ (by first | exact Nat.le_refl _ | (simp; done) | (simp; omega) | omega) _ | assumption))) hsn (by omega)).mono ?_; rw [HOK.out]; rintro e wn ⟨rfl, hbn⟩; obtain ⟨X, nX, rfl⟩ := Below.ext hbn; clear hbn) | (go_at_call 42; refine (l06Steps_c _ _ f HQL _ (HSL.out.below (by repeat (first | exact Below.refl _ _ | refine Below.drew ?_ | refine Below.alloc ?_ (by first | exact Nat.le_refl _ | (simp; done) | (simp; omega) | omega) _ | refine Below.more ?_ (by first | exact Nat.le_refl _ | (simp; done) | (simp; omega) | omega) _ _ | refine Below.setCell ?_ (by first | exact Nat.le_refl _ | (simp; done) | (simp; omega) | omega) _ | assumption)))).mono ?_; rintro e wn ⟨vs, rfl, ho, hbn⟩; have HO := Lib.hid ho; have HBN := Lib.hid hbn; clear ho hbn; obtain ⟨sa, sc, hsv⟩ := HO.out.form; rw [show (stepsOf f).length = 4 by rw [stepsOf, stepsTo_len, HQL.out]] at hsv; subst hsv))
            have HES1 := Lib.hid ((HES.out.below (by repeat (first | exact Below.refl _ _ | refine Below.drew ?_ | refine Below.alloc ?_ (by first | exact Nat.le_refl _ | (simp; done) | (simp; omega) | omega) _ | refine Below.more ?_ (by first | exact Nat.le_refl _ | (simp; done) | (simp; omega) | omega) _ _ | refine Below.setCell ?_ (by first | exact Nat.le_refl _ | (simp; done) | (simp; omega) | omega) _ | assumption))).below HBN.out)
            have HB1 := Lib.hid ((Below.trans HBEL.out (by repeat (first | exact Below.refl _ _ | refine Below.drew ?_ | refine Below.alloc ?_ (by first | exact Nat.le_refl _ | (simp; done) | (simp; omega) | omega) _ | refine Below.more ?_ (by first | exact Nat.le_refl _ | (simp; done) | (simp; omega) | omega) _ _ | refine Below.setCell ?_ (by first | exact Nat.le_refl _ | (simp; done) | (simp; omega) | omega) _ | assumption))).trans (HBN.out.mono (show w.heap.size ≤ _ from by simp; omega)))
            have HO1 := HO.out
            have HDIF := Lib.hid (fun b hb hc => show False by
              have h1 := (HLT.out b hb).2
              have h2 := (HO.out.lt b hc).1
              simp at h2
              omega)
            have z0 := cell_below (show Below wr.heap.size wr wn from Below.trans (by repeat (first | exact Below.refl _ _ | refine Below.drew ?_ | refine Below.alloc ?_ (by first | exact Nat.le_refl _ | (simp; done) | (simp; omega) | omega) _ | refine Below.more ?_ (by first | exact Nat.le_refl _ | (simp; done) | (simp; omega) | omega) _ _ | refine Below.setCell ?_ (by first | exact Nat.le_refl _ | (simp; done) | (simp; omega) | omega) _ | assumption)) (HBN.out.mono (by simp))) q0
            have z1 := cell_below (show Below wr.heap.size wr wn from Below.trans (by repeat (first | exact Below.refl _ _ | refine Below.drew ?_ | refine Below.alloc ?_ (by first | exact Nat.le_refl _ | (simp; done) | (simp; omega) | omega) _ | refine Below.more ?_ (by first | exact Nat.le_refl _ | (simp; done) | (simp; omega) | omega) _ _ | refine Below.setCell ?_ (by first | exact Nat.le_refl _ | (simp; done) | (simp; omega) | omega) _ | assumption)) (HBN.out.mono (by simp))) q1
            have HO2 : Hid (∃ base, PairRow wn base (.slice sa 4 sc) (stepsOf f)) := Lib.hid ⟨_, HO.out⟩
            clear HO HBN HES q0 q1 HBEL y1 HO1 HLT
            obtain ⟨base, ho⟩ := HO2.out
            have HO := Lib.hid ho
            clear ho HO2
            go_loopw [5, 48] (fun out i wr => ∃ (j : Nat), j ≤ 4 ∧ i = .int .i64 j ∧ Hid (L0 ++ stepsTo f j).Nodup ∧ PairRow wr (w.heap.size + 1) out (L0 ++ stepsTo f j) ∧ PairRow wr base (.slice sa 4 sc) (stepsOf f) ∧ Hid (∀ b, out.ownBlock = some b → (Value.slice sa 4 sc).ownBlock = some b → False) ∧ Below w.heap.size w wr ∧ wr.cell? ⟨w.heap.size, 0, none⟩ = some (.slice a n c) ∧ wr.cell? ⟨w.heap.size, 1, none⟩ = some (.slice (some ⟨b, o, none⟩) m c')) (fun _ i _ => 4 - (intOf i).toNat)
            case atStart => exact ⟨0, by omega, rfl, Lib.hid (by rw [show stepsTo f 0 = [] from rfl, List.append_nil]; exact HND.out), by rw [show stepsTo f 0 = [] from rfl, List.append_nil]; exact HES1.out, HO.out, HDIF, HB1.out, z0, z1⟩
            case round =>
              clear HES1 HB1 z0 z1 HO HDIF
              obtain ⟨j, hj, rfl, HN2, hes, ho, HDIF, hbel, q0, q1⟩ := hrel
              have HBEL := Lib.hid hbel
              have HES := Lib.hid hes
              have HO := Lib.hid ho
              have y1 : w.heap.size < wr.heap.size := World.block_lt_of_cell? _ _ q0
              clear hbel hes ho
              by_cases hjl : j < 4
              · have hj1 : (j : Int) < 4 := by omega
                have hls : (stepsOf f).length = 4 := by rw [stepsOf, stepsTo_len, HQL.out]
                have hgd : (stepsOf f).getD j (0, 0) = stepAt f j := by
                  rw [List.getD_eq_getElem?_getD, stepsOf, stepsTo, HQL.out, List.getElem?_map, List.getElem?_range hjl]; rfl
                obtain ⟨g, cap2, u, hv, hg, hu, d0, d1, d2, d3⟩ := HO.out.read (i := j) (by rw [hls]; exact hjl)
                rw [hls] at hv
                rw [hgd] at d1 d2 d3
                simp only [Value.slice.injEq] at hv
                obtain ⟨rfl, _, rfl⟩ := hv
                clear hgd hls
                have HD := Lib.hid (fun h => HDU.out j (by omega) h)
                have HSS := Lib.hid (show L0 ++ stepsTo f (j + 1) = (L0 ++ stepsTo f j) ++ [stepAt f j] by rw [stepsTo_succ, List.append_assoc])
                have hln : (L0 ++ stepsTo f j).length ≤ 1048576 := by rw [List.length_append, stepsTo_len, HLEN.out]; omega
                generalize stepAt f j = pr at *
                obtain ⟨x, y⟩ := pr
                dsimp only at d1 d2 d3
                have HD3 := Lib.hid d3
                clear d3
                generalize L0 ++ stepsTo f j = L at *
                obtain ⟨oa, oc, hov⟩ := HES.out.form
                subst hov
                generalize hlq : L.length = ln at *
                have HLN := Lib.hid hlq
                clear hlq
                go_wp2
                go_loopw [54] (fun i wq => ∃ (t : Nat), t ≤ ln ∧ i = .int .i64 t ∧ Hid (∀ i, i < t → L.getD i (0, 0) ≠ (x, y)) ∧ Below wr.heap.size wr wq) (fun i _ => ln - (intOf i).toNat)
                case atStart => exact ⟨0, by omega, rfl, Lib.hid (fun j hj => by omega), (by repeat (first | exact Below.refl _ _ | refine Below.drew ?_ | refine Below.alloc ?_ (by first | exact Nat.le_refl _ | (simp; done) | (simp; omega) | omega) _ | refine Below.more ?_ (by first | exact Nat.le_refl _ | (simp; done) | (simp; omega) | omega) _ _ | refine Below.setCell ?_ (by first | exact Nat.le_refl _ | (simp; done) | (simp; omega) | omega) _ | assumption))⟩
                case round =>
                  obtain ⟨t, ht, rfl, HNE, hb2⟩ := hrel
                  have HB2 := Lib.hid hb2
                  have hs2 := hb2.size
                  clear hb2
                  replace q0 := cell_below HB2.out q0
                  replace q1 := cell_below HB2.out q1
                  replace d0 := cell_below HB2.out d0
                  replace d1 := cell_below HB2.out d1
                  replace d2 := cell_below HB2.out d2
                  replace HES := Lib.hid (HES.out.below HB2.out)
                  replace HO := Lib.hid (HO.out.below HB2.out)
                  replace HD3 := Lib.hid ((HB2.out.block u hu).trans HD3.out)
                  replace hu := Nat.lt_of_lt_of_le hu hs2
                  have HBEL2 := Lib.hid (Below.trans HBEL.out (HB2.out.mono (Nat.le_of_lt y1)))
                  replace y1 := Nat.lt_of_lt_of_le y1 hs2
                  by_cases htl : t < ln
                  · have ht1 : (t : Int) < (ln : Int) := by omega
                    obtain ⟨g2, cap3, u2, hv2, hg2, hu2, e0, e1, e2, e3⟩ := HES.out.read (i := t) (by rw [HLN.out]; exact htl)
                    rw [HLN.out] at hv2
                    simp only [Value.slice.injEq] at hv2
                    obtain ⟨rfl, _, rfl⟩ := hv2
                    clear e3
                    have HMEM := Lib.hid (show L.getD t (0, 0) = (x, y) → r = false from fun e => HD.out (by
                      rw [← e, List.getD_eq_getElem?_getD, List.getElem?_eq_getElem (by rw [HLN.out]; exact htl)]
                      exact List.getElem_mem _))
                    have HNN := Lib.hid (show L.getD t (0, 0) ≠ (x, y) → ∀ i, i < t + 1 → L.getD i (0, 0) ≠ (x, y) from fun h i hi => by
                      by_cases e : i = t
                      · subst e; exact h
                      · exact HNE.out i (by omega))
                    generalize L.getD t (0, 0) = pt at *
                    obtain ⟨x', y'⟩ := pt
                    dsimp only at e1 e2
                    cases b1 : (x == x')
                    · have HF := Lib.hid (HNN.out (fun e => by simp only [Prod.mk.injEq] at e; rw [e.1] at b1; simp at b1))
                      go_wp2
                      (first | refine region_q2 (by kernel_rfl) (by kernel_rfl) ?_ | refine region_q (by kernel_rfl) (by kernel_rfl) ?_)
                      repeat (quiet_step (fail))
                      (refine wpQuiet_nil ?_; intro X nX)
                      go_wp2
                      refine ⟨⟨t + 1, by omega, rfl, HF, Below.trans HB2.out (by repeat (first | exact Below.refl _ _ | refine Below.drew ?_ | refine Below.alloc ?_ (by first | exact Nat.le_refl _ | (simp; done) | (simp; omega) | omega) _ | refine Below.more ?_ (by first | exact Nat.le_refl _ | (simp; done) | (simp; omega) | omega) _ _ | refine Below.setCell ?_ (by first | exact Nat.le_refl _ | (simp; done) | (simp; omega) | omega) _ | assumption))⟩, by simp only [intOf]; omega⟩
                    · cases b2 : (y == y')
                      · have HF := Lib.hid (HNN.out (fun e => by simp only [Prod.mk.injEq] at e; rw [e.2] at b2; simp at b2))
                        go_wp2
                        (first | refine region_q2 (by kernel_rfl) (by kernel_rfl) ?_ | refine region_q (by kernel_rfl) (by kernel_rfl) ?_)
                        repeat (quiet_step (fail))
                        (refine wpQuiet_nil ?_; intro X nX)
                        go_wp2
                        refine ⟨⟨t + 1, by omega, rfl, HF, Below.trans HB2.out (by repeat (first | exact Below.refl _ _ | refine Below.drew ?_ | refine Below.alloc ?_ (by first | exact Nat.le_refl _ | (simp; done) | (simp; omega) | omega) _ | refine Below.more ?_ (by first | exact Nat.le_refl _ | (simp; done) | (simp; omega) | omega) _ _ | refine Below.setCell ?_ (by first | exact Nat.le_refl _ | (simp; done) | (simp; omega) | omega) _ | assumption))⟩, by simp only [intOf]; omega⟩
                      · have HF := Lib.hid (HMEM.out (by
                          have h1 : x = x' := by simpa using b1
                          have h2 : y = y' := by simpa using b2
                          rw [h1, h2]))
                        go_wp2
                        (first | refine region_q2 (by kernel_rfl) (by kernel_rfl) ?_ | refine region_q (by kernel_rfl) (by kernel_rfl) ?_)
                        repeat (quiet_step (fail))
                        (refine wpQuiet_nil ?_; intro X nX)
                        go_wp2
                        go_ret
                        exact ⟨ret_bool HF.out.symm, Below.trans HBEL2.out (by repeat (first | exact Below.refl _ _ | refine Below.drew ?_ | refine Below.alloc ?_ (by first | exact Nat.le_refl _ | (simp; done) | (simp; omega) | omega) _ | refine Below.more ?_ (by first | exact Nat.le_refl _ | (simp; done) | (simp; omega) | omega) _ _ | refine Below.setCell ?_ (by first | exact Nat.le_refl _ | (simp; done) | (simp; omega) | omega) _ | assumption))⟩
                  · have ht1 : ¬ (t : Int) < (ln : Int) := by omega
                    have HND2 := Lib.hid (nodup_snoc HN2.out (fun hm => by
                      obtain ⟨i, hi, he⟩ := List.getElem_of_mem hm
                      refine HNE.out i (by rw [HLN.out] at hi; omega) ?_
                      rw [List.getD_eq_getElem?_getD, List.getElem?_eq_getElem hi, he]; rfl))
                    go_wp2_with (at_builtin; go_loud (refine wpList_append_pair _ rfl _ _ rfl (w.heap.size + 1) _ L rfl (HES.out.below (by repeat (first | exact Below.refl _ _ | refine Below.drew ?_ | refine Below.alloc ?_ (by first | exact Nat.le_refl _ | (simp; done) | (simp; omega) | omega) _ | refine Below.more ?_ (by first | exact Nat.le_refl _ | (simp; done) | (simp; omega) | omega) _ _ | refine Below.setCell ?_ (by first | exact Nat.le_refl _ | (simp; done) | (simp; omega) | omega) _ | assumption))) _ 1 rfl u ?c2 (x, y) ?c3 ?c5 ?c4 ?_))
                    case c3 => exact ⟨u, rfl, (heap_alloc_old _ _ hu).trans HD3.out⟩
                    case c5 => rw [HLN.out]; exact hln
                    case c4 => first | omega | (simp; omega)
                    intro v' w' hp' hg' hloc hrow
                    have HP' := Lib.hid hp'
                    have hlt2 := fun b hb => (HES.out.lt b hb).1
                    have hne : (Value.slice oa ln oc).ownBlock ≠ some w.heap.size := fun e => by have := hlt2 _ e; omega
                    have HB' := Lib.hid (Below.grown (Below.trans HBEL2.out (by repeat (first | exact Below.refl _ _ | refine Below.drew ?_ | refine Below.alloc ?_ (by first | exact Nat.le_refl _ | (simp; done) | (simp; omega) | omega) _ | refine Below.more ?_ (by first | exact Nat.le_refl _ | (simp; done) | (simp; omega) | omega) _ _ | refine Below.setCell ?_ (by first | exact Nat.le_refl _ | (simp; done) | (simp; omega) | omega) _ | assumption))) hg' (by first | omega | (simp; omega)) (fun k hk => by have := hlt2 k hk; omega))
                    have HO' := Lib.hid ((HO.out.below (by repeat (first | exact Below.refl _ _ | refine Below.drew ?_ | refine Below.alloc ?_ (by first | exact Nat.le_refl _ | (simp; done) | (simp; omega) | omega) _ | refine Below.more ?_ (by first | exact Nat.le_refl _ | (simp; done) | (simp; omega) | omega) _ _ | refine Below.setCell ?_ (by first | exact Nat.le_refl _ | (simp; done) | (simp; omega) | omega) _ | assumption))).grown hg' (fun b hb hc => HDIF.out b hb hc) (fun b hb => by obtain ⟨c, a1, b1, h⟩ := hrow b hb; exact ⟨c, (a1, b1), h⟩))
                    have HDIF' : Hid (∀ b, v'.ownBlock = some b → (Value.slice (some ⟨g, 0, none⟩) 4 sc).ownBlock = some b → False) := Lib.hid (fun b hb hc => by
                      rcases hloc with h | h
                      · rw [h] at hb; exact HDIF.out b hb hc
                      · rw [h] at hb
                        have h1 := (HO.out.lt b hc).2
                        simp only [Option.some.injEq] at hb
                        omega)
                    have z0 : w'.cell? ⟨w.heap.size, 0, none⟩ = some (.slice a n c) := (World.cell?_of_block (hg'.block _ (by first | omega | (simp; omega)) (fun e => hne e.symm))).trans (cell_below (show Below wr.heap.size wr _ from (by repeat (first | exact Below.refl _ _ | refine Below.drew ?_ | refine Below.alloc ?_ (by first | exact Nat.le_refl _ | (simp; done) | (simp; omega) | omega) _ | refine Below.more ?_ (by first | exact Nat.le_refl _ | (simp; done) | (simp; omega) | omega) _ _ | refine Below.setCell ?_ (by first | exact Nat.le_refl _ | (simp; done) | (simp; omega) | omega) _ | assumption))) q0)
                    have z1 : w'.cell? ⟨w.heap.size, 1, none⟩ = some (.slice (some ⟨b, o, none⟩) m c') := (World.cell?_of_block (hg'.block _ (by first | omega | (simp; omega)) (fun e => hne e.symm))).trans (cell_below (show Below wr.heap.size wr _ from (by repeat (first | exact Below.refl _ _ | refine Below.drew ?_ | refine Below.alloc ?_ (by first | exact Nat.le_refl _ | (simp; done) | (simp; omega) | omega) _ | refine Below.more ?_ (by first | exact Nat.le_refl _ | (simp; done) | (simp; omega) | omega) _ _ | refine Below.setCell ?_ (by first | exact Nat.le_refl _ | (simp; done) | (simp; omega) | omega) _ | assumption))) q1)
                    clear hp' hg' hloc hrow hlt2
                    go_wp2
                    refine ⟨⟨j + 1, by omega, rfl, Lib.hid (by rw [HSS.out]; exact HND2.out), by rw [HSS.out]; exact HP'.out, HO'.out, HDIF', HB'.out, z0, z1⟩, by simp only [intOf]; omega⟩
              · have hj1 : ¬ (j : Int) < 4 := by omega
                obtain rfl : j = 4 := by omega
                have HE4 := Lib.hid (show L0 ++ stepsTo f 4 = edgesTo s (k + 1) by rw [HSU.out, stepsOf, HQL.out])
                go_wp2
                refine ⟨⟨k + 1, by omega, rfl, HYE, Lib.hid (by rw [← HE4.out]; exact HN2.out), by rw [← HE4.out]; exact HES.out, HBEL.out, q0, q1⟩, by simp only [intOf]; omega⟩
        · have hk1 : ¬ (k : Int) < (m : Int) := by omega
          obtain rfl : k = m := by omega
          have HR := Lib.hid (ALL.out (by omega) (by omega) HALLV.out HALL.out HND.out)
          go_wp2
          go_ret
          exact ⟨ret_bool HR.out.symm, HBEL.out⟩
end Go.Proofs.YtpfmcobkfofbjaaGreat
