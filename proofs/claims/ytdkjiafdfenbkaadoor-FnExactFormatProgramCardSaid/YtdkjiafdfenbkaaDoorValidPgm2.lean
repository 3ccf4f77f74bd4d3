/- The contract of impl.IsValidProgram. -/
import Derived.Test.YtdkjiafdfenbkaaDoorValidPgm
import Derived.Test.YtdkjiafdfenbkaaDoorContains
namespace Go.Proofs.YtdkjiafdfenbkaaDoor
open Go.RowKit
set_option maxRecDepth 100000 in
set_option maxHeartbeats 4000000 in
theorem impl_IsValidProgram_c (v : Value) (p : ProgD) (w : World) (hr : ProgramR w v p) (hs : ProgramSz 1048576 p) :
    Calls Tryd.prog 69 #[v] w fun e w' => e = .returned (.bool (validB p)) ∧ Below w.heap.size w w' := by
  have HP := Lib.hid hr
  have HPS := Lib.hid hs
  obtain ⟨a, c, a', c', rfl, ⟨A, K, h1, h2⟩, h3⟩ := hr
  obtain ⟨hs1, hs2, hs3, hs4⟩ := hs
  have VN := Lib.hid (fun i h hn => validB_node (p := p) (i := i) h hn)
  have VA := Lib.hid (fun i h hn => validB_asg (p := p) (i := i) h hn)
  have VU := Lib.hid (fun k h hn => validB_use (p := p) (k := k) h hn)
  have VALL := Lib.hid (fun g1 g2 g3 => validB_all (p := p) g1 g2 g3)
  have VBIG := Lib.hid (fun h => validB_big (p := p) h)
  have HUE := Lib.hid (show useL p = flatL p.nodes ++ rootsL p.asg from rfl)
  have HFIT := Lib.hid (fun g1 g2 => fit_of (p := p) g1 g2)
  have HN := Lib.hid p.hN
  have HA := Lib.hid p.hA
  generalize validB p = r at *
  generalize useL p = ul at *
  generalize p.nN = n at *
  generalize p.nA = m at *
  generalize p.nodes = l at *
  generalize p.asg = s at *
  have HR := Lib.hid h1
  have HQ := Lib.hid h2
  have HS := Lib.hid h3
  have HZ := Lib.hid hs3
  have HZ4 := Lib.hid hs4
  have HFL := Lib.hid (fun k hk => flatL_len (l := l) (B := 1048576) k hk (fun i hi => (hs3 i (by rw [HN.out] at hi; exact hi)).2))
  clear h1 h2 h3 hs3 hs4
  by_cases hbig : (60 : Int) < (n : Int)
  case pos =>
    have HK := Lib.hid (VBIG.out (by omega))
    go_enter Tryd.func69, Tryd.ntmps69
    go_wp2
    go_ret
    exact ⟨ret_bool HK.out.symm, (by repeat (first | exact Below.refl _ _ | refine Below.drew ?_ | refine Below.alloc ?_ (by first | exact Nat.le_refl _ | (simp; done) | (simp; omega) | omega) _ | refine Below.more ?_ (by first | exact Nat.le_refl _ | (simp; done) | (simp; omega) | omega) _ _ | refine Below.setCell ?_ (by first | exact Nat.le_refl _ | (simp; done) | (simp; omega) | omega) _ | assumption))⟩
  have hmk := fun w => make_counts n hs1 w
  have hwrn : IntKind.i64.wrap ((n : Int) - 1) = (n : Int) - 1 := IntWalk.i64_in _ (by omega)
  go_enter Tryd.func69, Tryd.ntmps69
  go_wp2
  go_loopw [21] (fun i wr => ∃ (k : Nat), k ≤ n ∧ i = .int .i64 k ∧ Hid (∀ j, j < k → nodeOkB l j = true) ∧ Below w.heap.size w wr ∧ wr.heap[w.heap.size + 1]? = some (.cells ⟨counts n (flatL (l.take k))⟩ 3 (0, 0)) ∧ wr.cell? ⟨w.heap.size, 0, none⟩ = some (.slice a n c) ∧ wr.cell? ⟨w.heap.size, 1, none⟩ = some (.slice a' m c')) (fun i _ => n - (intOf i).toNat)
  case atStart => exact ⟨0, by omega, rfl, Lib.hid (fun j hj => by omega), (by repeat (first | exact Below.refl _ _ | refine Below.drew ?_ | refine Below.alloc ?_ (by first | exact Nat.le_refl _ | (simp; done) | (simp; omega) | omega) _ | refine Below.more ?_ (by first | exact Nat.le_refl _ | (simp; done) | (simp; omega) | omega) _ _ | refine Below.setCell ?_ (by first | exact Nat.le_refl _ | (simp; done) | (simp; omega) | omega) _ | assumption)), by rw [show flatL (l.take 0) = [] from by simp [flatL]]; exact heap_at_new (by simp), by simp [go_sem], by simp [go_sem]⟩
  case round =>
    obtain ⟨k, hk, rfl, HALL, hbel, hu, q0, q1⟩ := hrel
    have HBEL := Lib.hid hbel
    have HUB := Lib.hid hu
    have hbs := hbel.size
    have y1 : w.heap.size + 1 < wr.heap.size := (Array.getElem?_eq_some_iff.1 hu).1
    have y0 : w.heap.size < wr.heap.size := by omega
    clear hbel hu
    by_cases hlt : k < n
    · have hk1 : (k : Int) < (n : Int) := by omega
      obtain ⟨b, o, e, hb, hc⟩ := HR.out.below HBEL.out (by omega)
      subst e
      have c0 : wr.cell? ⟨b, o + k * 4, none⟩ = some (.int .i64 (l.getD k default).f0) := hc k hlt 0 (by omega)
      have c1 : wr.cell? ⟨b, o + k * 4 + 1, none⟩ = some (.string (l.getD k default).f1) := hc k hlt 1 (by omega)
      have c2 : wr.cell? ⟨b, o + k * 4 + 2, none⟩ = some (.int .i64 (l.getD k default).f2) := hc k hlt 2 (by omega)
      have c3 : wr.cell? ⟨b, o + k * 4 + 3, none⟩ = some (.slice (A k) (l.getD k default).f3.length (K k)) := hc k hlt 3 (by omega)
      clear hc
      have HSL := Lib.hid (show Sl w (A k) 1 (l.getD k default).f3.length (intAt (l.getD k default).f3) from HQ.out k hlt)
      have HT := Lib.hid (flatL_take (l := l) (k := k) (by rw [HN.out]; exact hlt))
      have hfl := HFL.out k (by rw [HN.out]; omega)
      have hsn : (l.getD k default).f3.length ≤ 1048576 := (HZ.out k hlt).2
      have HNO := Lib.hid (fun h => VN.out k hlt h)
      have HYES := Lib.hid (show nodeOkB l k = true → ∀ j, j < k + 1 → nodeOkB l j = true from fun h j hj => by
        by_cases hjk : j = k
        · subst hjk; exact h
        · exact HALL.out j (by omega))
      have HE := Lib.hid (show nodeOkB l k = (argsInB (l.getD k default).f3 0 ((k : Int) - 1) && fieldsOk (l.getD k default)) from rfl)
      have HFTD := Lib.hid (show argsInB (l.getD k default).f3 0 ((k : Int) - 1) = true → argsIn (l.getD k default).f3 0 ((n : Int) - 1) from fun h j hj => by
        simp only [argsInB, decide_eq_true_eq] at h
        have := h j hj
        omega)
      generalize nodeOkB l k = ok at *
      generalize A k = ak at *
      generalize K k = kk at *
      generalize l.getD k default = x at *
      generalize flatL (l.take k) = pre at *
      obtain ⟨x0, x1, x2, x3⟩ := x
      dsimp only at c0 c1 c2 c3 hsn HSL HT HFTD HE
      have hwrk : IntKind.i64.wrap ((k : Int) - 1) = (k : Int) - 1 := IntWalk.i64_in _ (by omega)
      cases i1 : fieldsOk ⟨x0, x1, x2, x3⟩
      case false =>
        have HK : Hid (ok = false) := Lib.hid (by rw [HE.out, i1]; simp)
        go_wp2_with (go_at_call 107; refine (validNode_c ⟨x0, x1, x2, x3⟩ ak kk _).mono ?_; rw [i1]; rintro e wn ⟨rfl, hbn⟩; obtain ⟨X, nX, rfl⟩ := Below.ext hbn; clear hbn)
        go_ret
        exact ⟨ret_bool (HNO.out HK.out).symm, Below.trans HBEL.out (by repeat (first | exact Below.refl _ _ | refine Below.drew ?_ | refine Below.alloc ?_ (by first | exact Nat.le_refl _ | (simp; done) | (simp; omega) | omega) _ | refine Below.more ?_ (by first | exact Nat.le_refl _ | (simp; done) | (simp; omega) | omega) _ _ | refine Below.setCell ?_ (by first | exact Nat.le_refl _ | (simp; done) | (simp; omega) | omega) _ | assumption))⟩
      cases i2 : argsInB x3 0 ((k : Int) - 1)
      case false =>
        have HK : Hid (ok = false) := Lib.hid (by rw [HE.out, i1, i2]; rfl)
        go_wp2_with (first | (go_at_call 107; refine (validNode_c ⟨x0, x1, x2, x3⟩ ak kk _).mono ?_; rw [i1]; rintro e wn ⟨rfl, hbn⟩; obtain ⟨X, nX, rfl⟩ := Below.ext hbn; clear hbn) | (go_at_call 108; refine (allWithin_c ak kk x3 _ (Lib.hid rfl) _ _ _ ((HSL.out.below HBEL.out).below (by repeat (first | exact Below.refl _ _ | refine Below.drew ?_ | refine Below.alloc ?_ (by first | exact Nat.le_refl _ | (simp; done) | (simp; omega) | omega) _ | refine Below.more ?_ (by first | exact Nat.le_refl _ | (simp; done) | (simp; omega) | omega) _ _ | refine Below.setCell ?_ (by first | exact Nat.le_refl _ | (simp; done) | (simp; omega) | omega) _ | assumption))) hsn).mono ?_; rw [i2]; rintro e w' ⟨rfl, rfl⟩))
        go_ret
        exact ⟨ret_bool (HNO.out HK.out).symm, Below.trans HBEL.out (by repeat (first | exact Below.refl _ _ | refine Below.drew ?_ | refine Below.alloc ?_ (by first | exact Nat.le_refl _ | (simp; done) | (simp; omega) | omega) _ | refine Below.more ?_ (by first | exact Nat.le_refl _ | (simp; done) | (simp; omega) | omega) _ _ | refine Below.setCell ?_ (by first | exact Nat.le_refl _ | (simp; done) | (simp; omega) | omega) _ | assumption))⟩
      have HOK : Hid (ok = true) := Lib.hid (by rw [HE.out, i1, i2]; rfl)
      have HFT := Lib.hid (HFTD.out i2)
      go_wp2_with (first | (go_at_call 107; refine (validNode_c ⟨x0, x1, x2, x3⟩ ak kk _).mono ?_; rw [i1]; rintro e wn ⟨rfl, hbn⟩; obtain ⟨X, nX, rfl⟩ := Below.ext hbn; clear hbn) | (go_at_call 108; refine (allWithin_c ak kk x3 _ (Lib.hid rfl) _ _ _ ((HSL.out.below HBEL.out).below (by repeat (first | exact Below.refl _ _ | refine Below.drew ?_ | refine Below.alloc ?_ (by first | exact Nat.le_refl _ | (simp; done) | (simp; omega) | omega) _ | refine Below.more ?_ (by first | exact Nat.le_refl _ | (simp; done) | (simp; omega) | omega) _ _ | refine Below.setCell ?_ (by first | exact Nat.le_refl _ | (simp; done) | (simp; omega) | omega) _ | assumption))) hsn).mono ?_; rw [i2]; rintro e w' ⟨rfl, rfl⟩))
      go_loopw [40] (fun i wq => ∃ (j : Nat), j ≤ x3.length ∧ i = .int .i64 j ∧ Below w.heap.size w wq ∧ wq.heap[w.heap.size + 1]? = some (.cells ⟨counts n (pre ++ x3.take j)⟩ 3 (0, 0)) ∧ wq.cell? ⟨w.heap.size, 0, none⟩ = some (.slice (some ⟨b, o, none⟩) n c) ∧ wq.cell? ⟨w.heap.size, 1, none⟩ = some (.slice a' m c')) (fun i _ => x3.length - (intOf i).toNat)
      case atStart =>
        have bb : Below wr.heap.size wr (more (wr.alloc (.cells ⟨NodeD.cells ⟨x0, x1, x2, x3⟩ ak kk⟩ 156)) X nX) := (by repeat (first | exact Below.refl _ _ | refine Below.drew ?_ | refine Below.alloc ?_ (by first | exact Nat.le_refl _ | (simp; done) | (simp; omega) | omega) _ | refine Below.more ?_ (by first | exact Nat.le_refl _ | (simp; done) | (simp; omega) | omega) _ _ | refine Below.setCell ?_ (by first | exact Nat.le_refl _ | (simp; done) | (simp; omega) | omega) _ | assumption))
        refine ⟨0, by omega, rfl, Below.trans HBEL.out (bb.mono (by omega)), ?_, cell_below bb q0, cell_below bb q1⟩
        rw [List.take_zero, List.append_nil]
        exact (bb.block _ y1).trans HUB.out
      case round =>
        clear c0 c1 c2 c3 q0 q1
        obtain ⟨j, hj, rfl, hbel2, hu2, q2, q3⟩ := hrel
        have HB2 := Lib.hid hbel2
        have HU2 := Lib.hid hu2
        have y2 : w.heap.size + 1 < wr.heap.size := (Array.getElem?_eq_some_iff.1 hu2).1
        clear hbel2 hu2
        by_cases hjl : j < x3.length
        · have hj1 : (j : Int) < (x3.length : Int) := by omega
          obtain ⟨b2, o2, e2, hb2, hc2⟩ := HSL.out.below HB2.out (by omega)
          subst e2
          have d0 : wr.cell? ⟨b2, o2 + j, none⟩ = some (.int .i64 (x3.getD j 0)) := by
            have := hc2 j hjl 0 (by omega)
            rw [Nat.mul_one, Nat.add_zero] at this
            rw [this]; simp [intAt]
          clear hc2
          have HTK := Lib.hid (take_snoc (l := x3) (k := j) hjl)
          have hbd := HFT.out j hjl
          have hlen : (pre ++ x3.take j).length ≤ 2199023255552 := by
            rw [List.length_append, List.length_take]
            have : k * 1048576 ≤ 1048576 * 1048576 := Nat.mul_le_mul_right _ (by omega)
            omega
          generalize x3.getD j 0 = x at *
          obtain ⟨q, rfl⟩ := Int.eq_ofNat_of_zero_le hbd.1
          have hq : q < n := by omega
          have hq1 : (q : Int) < (n : Int) := by omega
          have k0 : wr.cell? ⟨w.heap.size + 1, q, none⟩ = some (.int .i64 ((pre ++ x3.take j).count (q : Int) : Nat)) := by
            exact count_cell HU2.out hq
          have k1 : wr.frozen? ⟨w.heap.size + 1, q, none⟩ = false := frozen_of_row _ _ q ⟨_⟩ _ HU2.out
          have hcl : (pre ++ x3.take j).count (q : Int) ≤ 2199023255552 := Nat.le_trans List.count_le_length hlen
          have HST := Lib.hid (counts_set (n := n) (k := q) (L := pre ++ x3.take j) hq)
          generalize (pre ++ x3.take j).count (q : Int) = cn at *
          have hwr : IntKind.i64.wrap ((cn : Int) + 1) = (cn : Int) + 1 := IntWalk.i64_in _ (by omega)
          go_wp2
          refine ⟨⟨j + 1, by omega, rfl, below_set_here HB2.out HU2.out (Nat.le_succ _) _ _, ?_, ?_, ?_⟩, by simp only [intOf]; omega⟩
          · rw [HTK.out, ← List.append_assoc, ← HST.out]
            exact heap_set_here HU2.out _ _
          · exact (World.cell?_of_block (heap_set_other (U := w.heap.size + 1) _ _ w.heap.size (by omega))).trans q2
          · exact (World.cell?_of_block (heap_set_other (U := w.heap.size + 1) _ _ w.heap.size (by omega))).trans q3
        · have hj1 : ¬ (j : Int) < (x3.length : Int) := by omega
          have hje : x3.take j = x3 := List.take_of_length_le (by omega)
          have HJE := Lib.hid hje
          clear hje
          go_wp2
          refine ⟨⟨k + 1, by omega, rfl, Lib.hid (HYES.out HOK.out), HB2.out, ?_, q2, q3⟩, by simp only [intOf]; omega⟩
          rw [HT.out, ← HJE.out]
          have := HU2.out
          rw [HJE.out] at this ⊢
          exact this
    · have hk1 : ¬ (k : Int) < (n : Int) := by omega
      have hke : l.take k = l := List.take_of_length_le (by rw [HN.out]; omega)
      rw [hke] at HUB
      have hfl : (flatL l).length ≤ 2199023255552 := by
        have := HFL.out k (by rw [HN.out]; omega)
        rw [hke] at this
        have : k * 1048576 ≤ 1048576 * 1048576 := Nat.mul_le_mul_right _ (by omega)
        omega
      clear hke
      have HALL1 := Lib.hid (fun i (hi : i < n) => HALL.out i (by omega))
      clear HALL
      generalize flatL l = pre at *
      go_wp2
      go_loopw [55] (fun i wq => ∃ (j : Nat), j ≤ m ∧ i = .int .i64 j ∧ Hid (∀ i, i < j → asgOkB n s i = true) ∧ Below w.heap.size w wq ∧ wq.heap[w.heap.size + 1]? = some (.cells ⟨counts n (pre ++ rootsL (s.take j))⟩ 3 (0, 0)) ∧ wq.cell? ⟨w.heap.size, 0, none⟩ = some (.slice a n c)) (fun i _ => m - (intOf i).toNat)
      case atStart =>
        refine ⟨0, by omega, rfl, Lib.hid (fun j hj => by omega), HBEL.out, ?_, q0⟩
        rw [List.take_zero, show rootsL [] = [] from rfl, List.append_nil]
        exact HUB.out
      case round =>
        clear q0 q1 y0 y1 hbs
        obtain ⟨j, hj, rfl, HALL, hbel2, hu2, q2⟩ := hrel
        have HB2 := Lib.hid hbel2
        have HU2 := Lib.hid hu2
        have y2 : w.heap.size + 1 < wr.heap.size := (Array.getElem?_eq_some_iff.1 hu2).1
        have y3 : w.heap.size < wr.heap.size := by omega
        clear hbel2 hu2
        by_cases hjl : j < m
        · have hj1 : (j : Int) < (m : Int) := by omega
          obtain ⟨b2, o2, e2, hb2, hc2⟩ := HS.out.below HB2.out (by omega)
          subst e2
          have d0 : wr.cell? ⟨b2, o2 + j * 2, none⟩ = some (.string (s.getD j default).f0) := hc2 j hjl 0 (by omega)
          have d1 : wr.cell? ⟨b2, o2 + j * 2 + 1, none⟩ = some (.int .i64 (s.getD j default).f1) := hc2 j hjl 1 (by omega)
          clear hc2
          have HTK := Lib.hid (rootsL_take (l := s) (k := j) (by rw [HA.out]; exact hjl))
          have hlen : (pre ++ rootsL (s.take j)).length ≤ 4398046511104 := by
            rw [List.length_append, rootsL_len, List.length_take]
            omega
          have HNO := Lib.hid (fun h => VA.out j hjl h)
          have HYES := Lib.hid (show asgOkB n s j = true → ∀ i, i < j + 1 → asgOkB n s i = true from fun h i hi => by
            by_cases hjk : i = j
            · subst hjk; exact h
            · exact HALL.out i (by omega))
          have HE := Lib.hid (show asgOkB n s j = (identB (s.getD j default).f0 && inB (s.getD j default).f1 0 ((n : Int) - 1)) from rfl)
          generalize asgOkB n s j = ok at *
          generalize s.getD j default = x at *
          obtain ⟨x0, x1⟩ := x
          dsimp only at d0 d1 HTK HE
          cases i1 : identB x0
          case false =>
            have HK : Hid (ok = false) := Lib.hid (by rw [HE.out, i1]; rfl)
            go_wp2_with (go_at_call 109; refine (impl_IsIdentifier_c _ _).mono ?_; rw [i1]; rintro e wn ⟨rfl, hbn⟩; obtain ⟨X, nX, rfl⟩ := Below.ext hbn; clear hbn)
            go_ret
            exact ⟨ret_bool (HNO.out HK.out).symm, Below.trans HB2.out (by repeat (first | exact Below.refl _ _ | refine Below.drew ?_ | refine Below.alloc ?_ (by first | exact Nat.le_refl _ | (simp; done) | (simp; omega) | omega) _ | refine Below.more ?_ (by first | exact Nat.le_refl _ | (simp; done) | (simp; omega) | omega) _ _ | refine Below.setCell ?_ (by first | exact Nat.le_refl _ | (simp; done) | (simp; omega) | omega) _ | assumption))⟩
          cases i2 : inB x1 0 ((n : Int) - 1)
          case false =>
            have HK : Hid (ok = false) := Lib.hid (by rw [HE.out, i1, i2]; rfl)
            go_wp2_with (first | (go_at_call 109; refine (impl_IsIdentifier_c _ _).mono ?_; rw [i1]; rintro e wn ⟨rfl, hbn⟩; obtain ⟨X, nX, rfl⟩ := Below.ext hbn; clear hbn) | (go_at_call 47; refine (within_c _ _ _ _).mono ?_; rw [i2]; rintro e w' ⟨rfl, rfl⟩))
            go_ret
            exact ⟨ret_bool (HNO.out HK.out).symm, Below.trans HB2.out (by repeat (first | exact Below.refl _ _ | refine Below.drew ?_ | refine Below.alloc ?_ (by first | exact Nat.le_refl _ | (simp; done) | (simp; omega) | omega) _ | refine Below.more ?_ (by first | exact Nat.le_refl _ | (simp; done) | (simp; omega) | omega) _ _ | refine Below.setCell ?_ (by first | exact Nat.le_refl _ | (simp; done) | (simp; omega) | omega) _ | assumption))⟩
          have HK : Hid (ok = true) := Lib.hid (by rw [HE.out, i1, i2]; rfl)
          have hbd := inB_true.1 i2
          obtain ⟨q, rfl⟩ := Int.eq_ofNat_of_zero_le hbd.1
          have hq : q < n := by omega
          have hq1 : (q : Int) < (n : Int) := by omega
          have k0 : wr.cell? ⟨w.heap.size + 1, q, none⟩ = some (.int .i64 ((pre ++ rootsL (s.take j)).count (q : Int) : Nat)) := by
            exact count_cell HU2.out hq
          have k1 : wr.frozen? ⟨w.heap.size + 1, q, none⟩ = false := frozen_of_row _ _ q ⟨_⟩ _ HU2.out
          have hcl : (pre ++ rootsL (s.take j)).count (q : Int) ≤ 4398046511104 := Nat.le_trans List.count_le_length hlen
          have HST := Lib.hid (counts_set (n := n) (k := q) (L := pre ++ rootsL (s.take j)) hq)
          generalize (pre ++ rootsL (s.take j)).count (q : Int) = cn at *
          have hwr : IntKind.i64.wrap ((cn : Int) + 1) = (cn : Int) + 1 := IntWalk.i64_in _ (by omega)
          go_wp2_with (first | (go_at_call 109; refine (impl_IsIdentifier_c _ _).mono ?_; rw [i1]; rintro e wn ⟨rfl, hbn⟩; obtain ⟨X, nX, rfl⟩ := Below.ext hbn; clear hbn) | (go_at_call 47; refine (within_c _ _ _ _).mono ?_; rw [i2]; rintro e w' ⟨rfl, rfl⟩))
          have bb : Below wr.heap.size (wr.setCell ⟨w.heap.size + 1, q, none⟩ (.int .i64 ((cn : Int) + 1))) (more ((wr.setCell ⟨w.heap.size + 1, q, none⟩ (.int .i64 ((cn : Int) + 1))).alloc (.cells #[.string x0, .int .i64 (q : Int)] 104)) X nX) :=
            Below.more (Below.alloc (Below.refl _ _) (by rw [size_set]; exact Nat.le_refl _) _) (by simp []) _ _
          refine ⟨⟨j + 1, by omega, rfl, Lib.hid (HYES.out HK.out), Below.trans (below_set_here HB2.out HU2.out (Nat.le_succ _) _ _) (bb.mono (by omega)), ?_, ?_⟩, by simp only [intOf]; omega⟩
          · rw [HTK.out, ← List.append_assoc, ← HST.out]
            exact (bb.block _ y2).trans (heap_set_here HU2.out _ _)
          · exact (World.cell?_of_block (bb.block w.heap.size y3)).trans ((World.cell?_of_block (heap_set_other (U := w.heap.size + 1) _ _ w.heap.size (by omega))).trans q2)
        · have hj1 : ¬ (j : Int) < (m : Int) := by omega
          have hje : s.take j = s := List.take_of_length_le (by rw [HA.out]; omega)
          have HALL2 := Lib.hid (fun i (hi : i < m) => HALL.out i (by omega))
          clear HALL
          rw [hje, ← HUE.out] at HU2
          clear hje
          have HV := Lib.hid (show allOneB n ul = r from by
            by_cases hao : allOne n ul
            · rw [VALL.out HALL1.out HALL2.out hao]
              have : allOneB n ul = true := by simp only [allOneB, decide_eq_true_eq]; exact hao
              rw [this]; symm; simp; omega
            · have h0 : allOneB n ul = false := by simp only [allOneB, decide_eq_false_iff_not]; exact hao
              rw [h0]
              symm
              obtain ⟨k, hk⟩ := Classical.not_forall.1 hao
              obtain ⟨hk1, hk2⟩ := Classical.not_imp.1 hk
              exact VU.out k hk1 hk2)
          go_wp2_with (go_at_call 110; refine (containsNotOne_c _ n ul _ _ HU2.out hs1).mono ?_; rintro e w' ⟨rfl, rfl⟩)
          go_ret
          exact ⟨ret_bool HV.out, HB2.out⟩
end Go.Proofs.YtdkjiafdfenbkaaDoor
