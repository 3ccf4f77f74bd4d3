/- Contract of the reference's SameProgram. -/
import Derived.Test.YtgennnoplmhckaaSamePgm
namespace Go.Proofs.Ytgennnoplmhckaa
open Go Go.RowKit
theorem nodesEq_len {l l' : List NodeD} {n n' : Nat} (h : n ≠ n') : nodesEq l l' n n' = false := by simp [nodesEq, h]
theorem asgsEq_len {l l' : List AssignmentD} {n n' : Nat} (h : n ≠ n') : asgsEq l l' n n' = false := by simp [asgsEq, h]
theorem bytes_ext {a b : ByteArray} (h : a.toList = b.toList) : a = b := by
  rw [ByteArray.toList_eq, ByteArray.toList_eq] at h
  obtain ⟨⟨x⟩⟩ := a
  obtain ⟨⟨y⟩⟩ := b
  simpa using h
theorem bne_t {α : Type} [BEq α] {a b : α} (h : (a != b) = true) : (a == b) = false := by simpa [bne] using h
theorem bne_f {α : Type} [BEq α] {a b : α} (h : (a != b) = false) : (a == b) = true := by simpa [bne] using h
set_option maxRecDepth 100000 in
set_option maxHeartbeats 4000000 in
theorem spec_SameProgram_c (v : Value) (p : ProgD) (v' : Value) (q : ProgD) (w : World) (hr : ProgramR w v p) (hr' : ProgramR w v' q) (hs : ProgramSz 1048576 p) (hs' : ProgramSz 1048576 q) :
    Calls Try.prog 27 #[v, v'] w fun e w' => e = .returned (.bool (progEq p q)) ∧ Below w.heap.size w w' := by
  obtain ⟨pa, pc, pa', pc', rfl, ⟨A, K, h1, g1⟩, h2⟩ := hr
  obtain ⟨qa, qc, qa', qc', rfl, ⟨A', K', h1', g1'⟩, h2'⟩ := hr'
  obtain ⟨hs1, hs2, hs3, hs4⟩ := hs
  obtain ⟨ht1, ht2, ht3, ht4⟩ := hs'
  have HP := Lib.hid (show progEq p q = (nodesEq p.nodes q.nodes p.nN q.nN && asgsEq p.asg q.asg p.nA q.nA) from rfl)
  generalize p.nN = n at *
  generalize p.nA = m at *
  generalize q.nN = n' at *
  generalize q.nA = m' at *
  generalize p.nodes = l at *
  generalize q.nodes = l' at *
  generalize p.asg = s at *
  generalize q.asg = s' at *
  have HR := Lib.hid h1
  have HR' := Lib.hid h1'
  have HQ := Lib.hid g1
  have HQ' := Lib.hid g1'
  have HA := Lib.hid h2
  have HA' := Lib.hid h2'
  have HS := Lib.hid hs3
  have HS' := Lib.hid ht3
  clear h1 h1' g1 g1' h2 h2' hs3 ht3 hs4 ht4
  by_cases hnn : n = n'
  case neg =>
    have hb0 : ((n : Int) != (n' : Int)) = true := by rw [bne_iff_ne]; omega
    have HF := Lib.hid (show progEq p q = false by rw [HP.out, nodesEq_len hnn]; rfl)
    clear hnn
    go_enter Try.func27, Try.ntmps27
    go_wp2
    go_ret
    exact ⟨ret_bool HF.out.symm, (by repeat (first | exact Below.refl _ _ | refine Below.drew ?_ | refine Below.alloc ?_ (by first | exact Nat.le_refl _ | (simp; done) | (simp; omega) | omega) _ | refine Below.more ?_ (by first | exact Nat.le_refl _ | (simp; done) | (simp; omega) | omega) _ _ | refine Below.setCell ?_ (by first | exact Nat.le_refl _ | (simp; done) | (simp; omega) | omega) _ | assumption))⟩
  subst hnn
  have hb0 : ((n : Int) != (n : Int)) = false := by simp
  by_cases hmm : m = m'
  case neg =>
    have hb1 : ((m : Int) != (m' : Int)) = true := by rw [bne_iff_ne]; omega
    have HF := Lib.hid (show progEq p q = false by rw [HP.out, asgsEq_len hmm, Bool.and_false])
    clear hmm
    go_enter Try.func27, Try.ntmps27
    go_wp2
    go_ret
    exact ⟨ret_bool HF.out.symm, (by repeat (first | exact Below.refl _ _ | refine Below.drew ?_ | refine Below.alloc ?_ (by first | exact Nat.le_refl _ | (simp; done) | (simp; omega) | omega) _ | refine Below.more ?_ (by first | exact Nat.le_refl _ | (simp; done) | (simp; omega) | omega) _ _ | refine Below.setCell ?_ (by first | exact Nat.le_refl _ | (simp; done) | (simp; omega) | omega) _ | assumption))⟩
  subst hmm
  have hb1 : ((m : Int) != (m : Int)) = false := by simp
  go_enter Try.func27, Try.ntmps27
  go_wp2
  go_loopw [31] (fun i wr => ∃ (k : Nat), k ≤ n ∧ i = .int .i64 k ∧ (∀ i, i < k → nodeEq (l.getD i default) (l'.getD i default) = true) ∧ Below w.heap.size w wr ∧ wr.cell? ⟨w.heap.size + 1, 0, none⟩ = some (.slice qa n qc) ∧ wr.cell? ⟨w.heap.size + 1, 1, none⟩ = some (.slice qa' m qc') ∧ wr.cell? ⟨w.heap.size, 1, none⟩ = some (.slice pa' m pc')) (fun i _ => n - (intOf i).toNat)
  case atStart => exact ⟨0, by omega, rfl, fun i hi => by omega, (by repeat (first | exact Below.refl _ _ | refine Below.drew ?_ | refine Below.alloc ?_ (by first | exact Nat.le_refl _ | (simp; done) | (simp; omega) | omega) _ | refine Below.more ?_ (by first | exact Nat.le_refl _ | (simp; done) | (simp; omega) | omega) _ _ | refine Below.setCell ?_ (by first | exact Nat.le_refl _ | (simp; done) | (simp; omega) | omega) _ | assumption)), by simp [go_sem], by simp [go_sem], by simp [go_sem]⟩
  case round =>
    obtain ⟨k, hk, rfl, hall, hbel, q0, q1, q2⟩ := hrel
    have HALL := Lib.hid hall
    clear hall
    have HBEL := Lib.hid hbel
    have hbs := hbel.size
    have y1 : w.heap.size + 1 < wr.heap.size := World.block_lt_of_cell? _ _ q0
    have y2 : w.heap.size < wr.heap.size := by omega
    clear hbel
    by_cases hlt : k < n
    · have hk1 : (k : Int) < (n : Int) := by omega
      have hk0 : (0 : Int) ≤ (k : Int) := by omega
      have hcc := HR.out.below HBEL.out
      obtain ⟨b, o, e, hb, hc⟩ := hcc (by omega)
      subst e
      have hcc' := HR'.out.below HBEL.out
      obtain ⟨b', o', e, hb', hc'⟩ := hcc' (by omega)
      subst e
      have c0 : wr.cell? ⟨b, o + k * 4, none⟩ = some (.int .i64 (l.getD k default).f0) := hc k hlt 0 (by omega)
      have c1 : wr.cell? ⟨b, o + k * 4 + 1, none⟩ = some (.string (l.getD k default).f1) := hc k hlt 1 (by omega)
      have c2 : wr.cell? ⟨b, o + k * 4 + 2, none⟩ = some (.int .i64 (l.getD k default).f2) := hc k hlt 2 (by omega)
      have c3 : wr.cell? ⟨b, o + k * 4 + 3, none⟩ = some (.slice (A k) (l.getD k default).f3.length (K k)) := hc k hlt 3 (by omega)
      have e0 : wr.cell? ⟨b', o' + k * 4, none⟩ = some (.int .i64 (l'.getD k default).f0) := hc' k hlt 0 (by omega)
      have e1 : wr.cell? ⟨b', o' + k * 4 + 1, none⟩ = some (.string (l'.getD k default).f1) := hc' k hlt 1 (by omega)
      have e2 : wr.cell? ⟨b', o' + k * 4 + 2, none⟩ = some (.int .i64 (l'.getD k default).f2) := hc' k hlt 2 (by omega)
      have e3 : wr.cell? ⟨b', o' + k * 4 + 3, none⟩ = some (.slice (A' k) (l'.getD k default).f3.length (K' k)) := hc' k hlt 3 (by omega)
      have hb3 : b' < wr.heap.size + 1 := by omega
      clear hc hc' hcc hcc'
      have hsl : Sl wr (A k) 1 (l.getD k default).f3.length (intAt (l.getD k default).f3) := (HQ.out k hlt).below HBEL.out
      have hsl' : Sl wr (A' k) 1 (l'.getD k default).f3.length (intAt (l'.getD k default).f3) := (HQ'.out k hlt).below HBEL.out
      have hsn : (l.getD k default).f3.length ≤ 1048576 := (HS.out k hlt).2
      have hsn' : (l'.getD k default).f3.length ≤ 1048576 := (HS'.out k hlt).2
      have HS1 := Lib.hid (show nodeEq (l.getD k default) (l'.getD k default) = true → ∀ i, i < k + 1 → nodeEq (l.getD i default) (l'.getD i default) = true from fun q i hi => by
        by_cases hik : i = k
        · subst hik; exact q
        · exact HALL.out i (by omega))
      have HS2 := Lib.hid (show nodeEq (l.getD k default) (l'.getD k default) = false → progEq p q = false from fun h => by
        rw [HP.out, show nodesEq l l' n n = false from by
          simp only [nodesEq, Bool.and_eq_false_iff, decide_eq_false_iff_not]
          exact .inr fun g => by rw [g k hlt] at h; cases h]
        rfl)
      generalize l.getD k default = x at *
      generalize l'.getD k default = y at *
      generalize A k = ak at *
      generalize K k = kk at *
      generalize A' k = ak' at *
      generalize K' k = kk' at *
      obtain ⟨x0, x1, x2, x3⟩ := x
      obtain ⟨y0, y1', y2', y3⟩ := y
      dsimp only at c0 c1 c2 c3 e0 e1 e2 e3 hsl hsl' hsn hsn'
      have HSL := Lib.hid hsl
      have HSL' := Lib.hid hsl'
      clear hsl hsl'
      by_cases t0 : x0 = y0
      case neg =>
        have u0 : (x0 != y0) = true := bne_iff_ne.2 t0
        have u1 : (x0 == y0) = false := bne_t u0
        have HF := Lib.hid (show progEq p q = false from HS2.out (by simp [nodeEq, u1]))
        go_wp2
        go_ret
        exact ⟨ret_bool HF.out.symm, Below.trans HBEL.out (by repeat (first | exact Below.refl _ _ | refine Below.drew ?_ | refine Below.alloc ?_ (by first | exact Nat.le_refl _ | (simp; done) | (simp; omega) | omega) _ | refine Below.more ?_ (by first | exact Nat.le_refl _ | (simp; done) | (simp; omega) | omega) _ _ | refine Below.setCell ?_ (by first | exact Nat.le_refl _ | (simp; done) | (simp; omega) | omega) _ | assumption))⟩
      subst t0
      by_cases t1 : x1.toList = y1'.toList
      case neg =>
        have u0 : (x1.toList != y1'.toList) = true := bne_iff_ne.2 t1
        have u1 : (x1.toList == y1'.toList) = false := bne_t u0
        have HF := Lib.hid (show progEq p q = false from HS2.out (by simp [nodeEq, u1]))
        go_wp2
        go_ret
        exact ⟨ret_bool HF.out.symm, Below.trans HBEL.out (by repeat (first | exact Below.refl _ _ | refine Below.drew ?_ | refine Below.alloc ?_ (by first | exact Nat.le_refl _ | (simp; done) | (simp; omega) | omega) _ | refine Below.more ?_ (by first | exact Nat.le_refl _ | (simp; done) | (simp; omega) | omega) _ _ | refine Below.setCell ?_ (by first | exact Nat.le_refl _ | (simp; done) | (simp; omega) | omega) _ | assumption))⟩
      obtain rfl : x1 = y1' := bytes_ext t1
      clear t1
      by_cases t2 : x2 = y2'
      case neg =>
        have u0 : (x2 != y2') = true := bne_iff_ne.2 t2
        have u1 : (x2 == y2') = false := bne_t u0
        have HF := Lib.hid (show progEq p q = false from HS2.out (by simp [nodeEq, u1]))
        go_wp2
        go_ret
        exact ⟨ret_bool HF.out.symm, Below.trans HBEL.out (by repeat (first | exact Below.refl _ _ | refine Below.drew ?_ | refine Below.alloc ?_ (by first | exact Nat.le_refl _ | (simp; done) | (simp; omega) | omega) _ | refine Below.more ?_ (by first | exact Nat.le_refl _ | (simp; done) | (simp; omega) | omega) _ _ | refine Below.setCell ?_ (by first | exact Nat.le_refl _ | (simp; done) | (simp; omega) | omega) _ | assumption))⟩
      subst t2
      cases t3 : ((x3.length : Int) != (y3.length : Int))
      case true =>
        have HF := Lib.hid (show progEq p q = false from HS2.out (by
          have hne : x3.length ≠ y3.length := by rw [bne_iff_ne] at t3; omega
          simp [nodeEq, intsEq, hne]))
        go_wp2
        go_ret
        exact ⟨ret_bool HF.out.symm, Below.trans HBEL.out (by repeat (first | exact Below.refl _ _ | refine Below.drew ?_ | refine Below.alloc ?_ (by first | exact Nat.le_refl _ | (simp; done) | (simp; omega) | omega) _ | refine Below.more ?_ (by first | exact Nat.le_refl _ | (simp; done) | (simp; omega) | omega) _ _ | refine Below.setCell ?_ (by first | exact Nat.le_refl _ | (simp; done) | (simp; omega) | omega) _ | assumption))⟩
      have hle : y3.length = x3.length := by have := bne_f t3; simp at this; omega
      have HN1 := Lib.hid (show nodeEq ⟨x0, x1, x2, x3⟩ ⟨x0, x1, x2, y3⟩ = decide (∀ i, i < x3.length → x3.getD i 0 = y3.getD i 0) by
        simp only [nodeEq, beq_self_eq_true, Bool.true_and, Bool.and_self, intsEq, hle, decide_true])
      have HLE := Lib.hid hle
      clear hle
      go_wp2
      go_loop [72] (fun i => ∃ j : Nat, j ≤ x3.length ∧ i = .int .i64 j ∧ ∀ i, i < j → x3.getD i 0 = y3.getD i 0) (fun i => x3.length - (intOf i).toNat)
      case atStart => exact ⟨0, by omega, rfl, fun i hi => by omega⟩
      case round =>
        obtain ⟨j, hj, rfl, hall⟩ := hrel
        have HALL2 := Lib.hid hall
        clear hall
        by_cases hlt2 : j < x3.length
        · have hj1 : (j : Int) < (x3.length : Int) := by omega
          have hj0 : (0 : Int) ≤ (j : Int) := by omega
          have hj2 : (j : Int) < (y3.length : Int) := by have := HLE.out; omega
          obtain ⟨b3, o3, rfl, hb3', hc3⟩ := HSL.out (by omega)
          have d0 : wr.cell? ⟨b3, o3 + j, none⟩ = some (.int .i64 (x3.getD j 0)) := by have := hc3 j hlt2 0 (by omega); rw [Nat.mul_one, Nat.add_zero] at this; exact this
          obtain ⟨b4, o4, rfl, hb4, hc4⟩ := HSL'.out (by omega)
          have d1 : wr.cell? ⟨b4, o4 + j, none⟩ = some (.int .i64 (y3.getD j 0)) := by have := hc4 j (by have := HLE.out; omega) 0 (by omega); rw [Nat.mul_one, Nat.add_zero] at this; exact this
          have hb5 : b3 < wr.heap.size + 1 := by omega
          have hb6 : b4 < wr.heap.size + 1 := by omega
          clear hc3 hc4
          have HS3 := Lib.hid (show x3.getD j 0 = y3.getD j 0 → ∀ i, i < j + 1 → x3.getD i 0 = y3.getD i 0 from fun q i hi => by
            by_cases hik : i = j
            · subst hik; exact q
            · exact HALL2.out i (by omega))
          have HS4 := Lib.hid (show x3.getD j 0 ≠ y3.getD j 0 → progEq p q = false from fun q => HS2.out (by
            rw [HN1.out, decide_eq_false_iff_not]
            exact fun h => q (h j hlt2)))
          generalize x3.getD j 0 = xj at *
          generalize y3.getD j 0 = yj at *
          cases hq : (xj != yj)
          all_goals go_wp2
          · exact ⟨⟨j + 1, by omega, rfl, HS3.out (by simpa using hq)⟩, by simp only [intOf]; omega⟩
          · go_ret
            exact ⟨ret_bool (HS4.out (by simpa using hq)).symm, Below.trans HBEL.out (by repeat (first | exact Below.refl _ _ | refine Below.drew ?_ | refine Below.alloc ?_ (by first | exact Nat.le_refl _ | (simp; done) | (simp; omega) | omega) _ | refine Below.more ?_ (by first | exact Nat.le_refl _ | (simp; done) | (simp; omega) | omega) _ _ | refine Below.setCell ?_ (by first | exact Nat.le_refl _ | (simp; done) | (simp; omega) | omega) _ | assumption))⟩
        · have HY := Lib.hid (HS1.out (by rw [HN1.out, decide_eq_true_eq]; intro i hi; exact HALL2.out i (by omega)))
          go_wp2
          have bb : Below wr.heap.size wr ((wr.alloc (.cells ⟨NodeD.cells ⟨x0, x1, x2, x3⟩ ak kk⟩ 67)).alloc (.cells ⟨NodeD.cells ⟨x0, x1, x2, y3⟩ ak' kk'⟩ 67)) := (by repeat (first | exact Below.refl _ _ | refine Below.drew ?_ | refine Below.alloc ?_ (by first | exact Nat.le_refl _ | (simp; done) | (simp; omega) | omega) _ | refine Below.more ?_ (by first | exact Nat.le_refl _ | (simp; done) | (simp; omega) | omega) _ _ | refine Below.setCell ?_ (by first | exact Nat.le_refl _ | (simp; done) | (simp; omega) | omega) _ | assumption))
          exact ⟨⟨k + 1, by omega, rfl, HY.out, HBEL.out.trans (bb.mono hbs), cell_below bb q0, cell_below bb q1, cell_below bb q2⟩, by simp only [intOf]; omega⟩
    · have HN := Lib.hid (show nodesEq l l' n n = true by
        simp only [nodesEq, decide_true, Bool.true_and, decide_eq_true_eq]
        intro i hi; exact HALL.out i (by omega))
      go_wp2
      go_loopw [89] (fun i wr => ∃ (k : Nat), k ≤ m ∧ i = .int .i64 k ∧ (∀ i, i < k → asgEq (s.getD i default) (s'.getD i default) = true) ∧ Below w.heap.size w wr ∧ wr.cell? ⟨w.heap.size + 1, 1, none⟩ = some (.slice qa' m qc')) (fun i _ => m - (intOf i).toNat)
      case atStart => exact ⟨0, by omega, rfl, fun i hi => by omega, HBEL.out, q1⟩
      case round =>
        clear q0 q1 q2 y1 y2 hbs HBEL
        obtain ⟨k2, hk2, rfl, hall, hbel, q1⟩ := hrel
        have HALL2 := Lib.hid hall
        clear hall
        have HBEL := Lib.hid hbel
        have hbs := hbel.size
        clear hbel
        by_cases hlt2 : k2 < m
        · have hk1 : (k2 : Int) < (m : Int) := by omega
          have hk0 : (0 : Int) ≤ (k2 : Int) := by omega
          have y1 : w.heap.size + 1 < wr.heap.size := World.block_lt_of_cell? _ _ q1
          have y2 : w.heap.size + 1 < wr.heap.size + 1 := by omega
          have hcc := HA.out.below HBEL.out
          obtain ⟨b, o, e, hb, hc⟩ := hcc (by omega)
          subst e
          have hcc' := HA'.out.below HBEL.out
          obtain ⟨b', o', e, hb', hc'⟩ := hcc' (by omega)
          subst e
          have c0 : wr.cell? ⟨b, o + k2 * 2, none⟩ = some (.string (s.getD k2 default).f0) := hc k2 hlt2 0 (by omega)
          have c1 : wr.cell? ⟨b, o + k2 * 2 + 1, none⟩ = some (.int .i64 (s.getD k2 default).f1) := hc k2 hlt2 1 (by omega)
          have e0 : wr.cell? ⟨b', o' + k2 * 2, none⟩ = some (.string (s'.getD k2 default).f0) := hc' k2 hlt2 0 (by omega)
          have e1 : wr.cell? ⟨b', o' + k2 * 2 + 1, none⟩ = some (.int .i64 (s'.getD k2 default).f1) := hc' k2 hlt2 1 (by omega)
          have hb3 : b' < wr.heap.size + 1 := by omega
          clear hc hc' hcc hcc'
          have HS1 := Lib.hid (show asgEq (s.getD k2 default) (s'.getD k2 default) = true → ∀ i, i < k2 + 1 → asgEq (s.getD i default) (s'.getD i default) = true from fun q i hi => by
            by_cases hik : i = k2
            · subst hik; exact q
            · exact HALL2.out i (by omega))
          have HS2 := Lib.hid (show asgEq (s.getD k2 default) (s'.getD k2 default) = false → progEq p q = false from fun h => by
            have hz : asgsEq s s' m m = false := by
              simp only [asgsEq, Bool.and_eq_false_iff, decide_eq_false_iff_not]
              refine .inr fun g => ?_
              rw [g k2 hlt2] at h
              cases h
            rw [HP.out, hz, Bool.and_false])
          generalize s.getD k2 default = x at *
          generalize s'.getD k2 default = y at *
          obtain ⟨x0, x1⟩ := x
          obtain ⟨y0, y1'⟩ := y
          dsimp only at c0 c1 e0 e1
          cases hq : asgEqB x0 y0 x1 y1'
          all_goals
            go_wp2
            (first | refine region_q2 (by kernel_rfl) (by kernel_rfl) ?_ | refine region_q (by kernel_rfl) (by kernel_rfl) ?_)
            repeat (quiet_step (fail))
            (refine wpQuiet_nil ?_; intro X nX)
            go_wp2
          · go_ret
            exact ⟨ret_bool (HS2.out hq).symm, Below.trans HBEL.out (by repeat (first | exact Below.refl _ _ | refine Below.drew ?_ | refine Below.alloc ?_ (by first | exact Nat.le_refl _ | (simp; done) | (simp; omega) | omega) _ | refine Below.more ?_ (by first | exact Nat.le_refl _ | (simp; done) | (simp; omega) | omega) _ _ | refine Below.setCell ?_ (by first | exact Nat.le_refl _ | (simp; done) | (simp; omega) | omega) _ | assumption))⟩
          · have bb : Below wr.heap.size wr (more (wr.alloc (.cells #[.string x0, .int .i64 x1] 73)) X nX) := (by repeat (first | exact Below.refl _ _ | refine Below.drew ?_ | refine Below.alloc ?_ (by first | exact Nat.le_refl _ | (simp; done) | (simp; omega) | omega) _ | refine Below.more ?_ (by first | exact Nat.le_refl _ | (simp; done) | (simp; omega) | omega) _ _ | refine Below.setCell ?_ (by first | exact Nat.le_refl _ | (simp; done) | (simp; omega) | omega) _ | assumption))
            exact ⟨⟨k2 + 1, by omega, rfl, HS1.out hq, HBEL.out.trans (bb.mono hbs), cell_below bb q1⟩, by simp only [intOf]; omega⟩
        · have HF := Lib.hid (show progEq p q = true by
            rw [HP.out, HN.out, Bool.true_and]
            simp only [asgsEq, decide_true, Bool.true_and, decide_eq_true_eq]
            intro i hi; exact HALL2.out i (by omega))
          go_wp2
          go_ret
          exact ⟨ret_bool HF.out.symm, HBEL.out⟩
end Go.Proofs.Ytgennnoplmhckaa
