/- Contracts of IsValidProgram. -/
import Derived.Test.YtdkjiafdfenbkaaDoorUses
namespace Go.Proofs.YtdkjiafdfenbkaaDoor
open Go.RowKit
noncomputable def nodeOkB (l : List NodeD) (i : Nat) : Bool := argsInB (l.getD i default).f3 0 ((i : Int) - 1) && fieldsOk (l.getD i default)
noncomputable def asgOkB (n : Nat) (s : List AssignmentD) (i : Nat) : Bool := identB (s.getD i default).f0 && inB (s.getD i default).f1 0 ((n : Int) - 1)
open Classical in
noncomputable def validB (p : ProgD) : Bool := decide ((∀ i, i < p.nN → nodeOkB p.nodes i = true) ∧ (∀ i, i < p.nA → asgOkB p.nN p.asg i = true) ∧ (∀ k : Nat, k < p.nN → (useL p).count (k : Int) = 1) ∧ p.nN ≤ 60)
theorem validB_node {p : ProgD} {i : Nat} (h : i < p.nN) (hn : nodeOkB p.nodes i = false) : validB p = false := by
  simp only [validB, decide_eq_false_iff_not]
  exact fun ha => by rw [ha.1 i h] at hn; cases hn
theorem validB_asg {p : ProgD} {i : Nat} (h : i < p.nA) (hn : asgOkB p.nN p.asg i = false) : validB p = false := by
  simp only [validB, decide_eq_false_iff_not]
  exact fun ha => by rw [ha.2.1 i h] at hn; cases hn
theorem validB_use {p : ProgD} {k : Nat} (h : k < p.nN) (hn : (useL p).count (k : Int) ≠ 1) : validB p = false := by
  simp only [validB, decide_eq_false_iff_not]
  exact fun ha => hn (ha.2.2.1 k h)
theorem validB_big {p : ProgD} (h : 60 < p.nN) : validB p = false := by
  simp only [validB, decide_eq_false_iff_not]
  exact fun ha => by have := ha.2.2.2; omega
theorem validB_all {p : ProgD} (h1 : ∀ i, i < p.nN → nodeOkB p.nodes i = true) (h2 : ∀ i, i < p.nA → asgOkB p.nN p.asg i = true) (h3 : ∀ k : Nat, k < p.nN → (useL p).count (k : Int) = 1) : validB p = decide ((p.nN : Int) ≤ 60) := by
  simp only [validB]
  by_cases h : p.nN ≤ 60
  · rw [decide_eq_true ⟨h1, h2, h3, h⟩, decide_eq_true (by omega)]
  · rw [decide_eq_false (fun ha => h ha.2.2.2), decide_eq_false (by omega)]
theorem fit_of {p : ProgD} (h1 : ∀ i, i < p.nN → nodeOkB p.nodes i = true) (h2 : ∀ i, i < p.nA → asgOkB p.nN p.asg i = true) : argsFit p := by
  refine ⟨fun i hi j hj => ?_, fun i hi => ?_⟩
  · have := h1 i hi
    simp only [nodeOkB, Bool.and_eq_true, argsInB, decide_eq_true_eq] at this
    have := this.1 j hj
    omega
  · have := h2 i hi
    simp only [asgOkB, Bool.and_eq_true, inB_true] at this
    exact this.2
set_option maxRecDepth 100000 in
set_option maxHeartbeats 4000000 in
theorem spec_IsValidProgram_c (v : Value) (p : ProgD) (w : World) (hr : ProgramR w v p) (hs : ProgramSz 1048576 p) :
    Calls Tryd.prog 65 #[v] w fun e w' => e = .returned (.bool (validB p)) ∧ Below w.heap.size w w' := by
  have HP := Lib.hid hr
  have HPS := Lib.hid hs
  obtain ⟨a, c, a', c', rfl, ⟨A, K, h1, h2⟩, h3⟩ := hr
  obtain ⟨hs1, hs2, hs3, hs4⟩ := hs
  have VN := Lib.hid (fun i h hn => validB_node (p := p) (i := i) h hn)
  have VA := Lib.hid (fun i h hn => validB_asg (p := p) (i := i) h hn)
  have VU := Lib.hid (fun k h hn => validB_use (p := p) (k := k) h hn)
  have VALL := Lib.hid (fun g1 g2 g3 => validB_all (p := p) g1 g2 g3)
  have HFIT := Lib.hid (fun g1 g2 => fit_of (p := p) g1 g2)
  have HUC := Lib.hid (fun v w hr hf => l13Uses_c v p w hr HPS.out hf)
  have HPR := Lib.hid (fun (W : World) (hb : Below w.heap.size w W) => HP.out.below hb)
  have HN := Lib.hid p.hN
  have HA := Lib.hid p.hA
  generalize validB p = r at *
  generalize p.nN = n at *
  generalize p.nA = m at *
  generalize p.nodes = l at *
  generalize p.asg = s at *
  have HR := Lib.hid h1
  have HQ := Lib.hid h2
  have HS := Lib.hid h3
  have HZ := Lib.hid hs3
  have HZ4 := Lib.hid hs4
  clear h1 h2 h3 hs3 hs4
  go_enter Tryd.func65, Tryd.ntmps65
  go_wp2
  go_loopw [12] (fun i wr => ∃ (k : Nat), k ≤ n ∧ i = .int .i64 k ∧ Hid (∀ j, j < k → nodeOkB l j = true) ∧ Below w.heap.size w wr ∧ wr.cell? ⟨w.heap.size, 0, none⟩ = some (.slice a n c) ∧ wr.cell? ⟨w.heap.size, 1, none⟩ = some (.slice a' m c')) (fun i _ => n - (intOf i).toNat)
  case atStart => exact ⟨0, by omega, rfl, Lib.hid (fun j hj => by omega), (by repeat (first | exact Below.refl _ _ | refine Below.drew ?_ | refine Below.alloc ?_ (by first | exact Nat.le_refl _ | (simp; done) | (simp; omega) | omega) _ | refine Below.more ?_ (by first | exact Nat.le_refl _ | (simp; done) | (simp; omega) | omega) _ _ | refine Below.setCell ?_ (by first | exact Nat.le_refl _ | (simp; done) | (simp; omega) | omega) _ | assumption)), by simp [go_sem], by simp [go_sem]⟩
  case round =>
    obtain ⟨k, hk, rfl, HALL, hbel, q0, q1⟩ := hrel
    have HBEL := Lib.hid hbel
    have y1 : w.heap.size < wr.heap.size := World.block_lt_of_cell? _ _ q0
    clear hbel
    by_cases hlt : k < n
    · have hk1 : (k : Int) < (n : Int) := by omega
      obtain ⟨b, o, e, hb, hc⟩ := HR.out.below HBEL.out (by omega)
      subst e
      have c0 : wr.cell? ⟨b, o + k * 4, none⟩ = some (.int .i64 (l.getD k default).f0) := hc k hlt 0 (by omega)
      have c1 : wr.cell? ⟨b, o + k * 4 + 1, none⟩ = some (.string (l.getD k default).f1) := hc k hlt 1 (by omega)
      have c2 : wr.cell? ⟨b, o + k * 4 + 2, none⟩ = some (.int .i64 (l.getD k default).f2) := hc k hlt 2 (by omega)
      have c3 : wr.cell? ⟨b, o + k * 4 + 3, none⟩ = some (.slice (A k) (l.getD k default).f3.length (K k)) := hc k hlt 3 (by omega)
      clear hc
      have HSL := Lib.hid (show Sl wr (A k) 1 (l.getD k default).f3.length (intAt (l.getD k default).f3) from (HQ.out k hlt).below HBEL.out)
      have hz := HZ.out k hlt
      have HNO := Lib.hid (fun h => VN.out k hlt h)
      have HYES := Lib.hid (show nodeOkB l k = true → ∀ j, j < k + 1 → nodeOkB l j = true from fun h j hj => by
        by_cases hjk : j = k
        · subst hjk; exact h
        · exact HALL.out j (by omega))
      have HE := Lib.hid (show nodeOkB l k = (argsInB (l.getD k default).f3 0 ((k : Int) - 1) && fieldsOk (l.getD k default)) from rfl)
      generalize nodeOkB l k = ok at *
      generalize A k = ak at *
      generalize K k = kk at *
      generalize l.getD k default = x at *
      cases ok
      · go_wp2_with (go_at_call 102; refine (l13Node_c x ak kk k _ (HSL.out.below (by repeat (first | exact Below.refl _ _ | refine Below.drew ?_ | refine Below.alloc ?_ (by first | exact Nat.le_refl _ | (simp; done) | (simp; omega) | omega) _ | refine Below.more ?_ (by first | exact Nat.le_refl _ | (simp; done) | (simp; omega) | omega) _ _ | refine Below.setCell ?_ (by first | exact Nat.le_refl _ | (simp; done) | (simp; omega) | omega) _ | assumption))) hz.2 (by omega) hz.1).mono ?_; rw [← HE.out]; rintro e wn ⟨rfl, hbn⟩; obtain ⟨X, nX, rfl⟩ := Below.ext hbn; clear hbn)
        go_ret
        exact ⟨ret_bool (HNO.out (by first | rfl | trivial)).symm, Below.trans HBEL.out (by repeat (first | exact Below.refl _ _ | refine Below.drew ?_ | refine Below.alloc ?_ (by first | exact Nat.le_refl _ | (simp; done) | (simp; omega) | omega) _ | refine Below.more ?_ (by first | exact Nat.le_refl _ | (simp; done) | (simp; omega) | omega) _ _ | refine Below.setCell ?_ (by first | exact Nat.le_refl _ | (simp; done) | (simp; omega) | omega) _ | assumption))⟩
      · go_wp2_with (go_at_call 102; refine (l13Node_c x ak kk k _ (HSL.out.below (by repeat (first | exact Below.refl _ _ | refine Below.drew ?_ | refine Below.alloc ?_ (by first | exact Nat.le_refl _ | (simp; done) | (simp; omega) | omega) _ | refine Below.more ?_ (by first | exact Nat.le_refl _ | (simp; done) | (simp; omega) | omega) _ _ | refine Below.setCell ?_ (by first | exact Nat.le_refl _ | (simp; done) | (simp; omega) | omega) _ | assumption))) hz.2 (by omega) hz.1).mono ?_; rw [← HE.out]; rintro e wn ⟨rfl, hbn⟩; obtain ⟨X, nX, rfl⟩ := Below.ext hbn; clear hbn)
        refine ⟨⟨k + 1, by omega, rfl, Lib.hid (HYES.out (by first | rfl | trivial)), Below.trans HBEL.out (by repeat (first | exact Below.refl _ _ | refine Below.drew ?_ | refine Below.alloc ?_ (by first | exact Nat.le_refl _ | (simp; done) | (simp; omega) | omega) _ | refine Below.more ?_ (by first | exact Nat.le_refl _ | (simp; done) | (simp; omega) | omega) _ _ | refine Below.setCell ?_ (by first | exact Nat.le_refl _ | (simp; done) | (simp; omega) | omega) _ | assumption)), ?_, ?_⟩, by simp only [intOf]; omega⟩
        · first | exact q0 | (simp [go_sem, q0, y1]; done)
        · first | exact q1 | (simp [go_sem, q1, y1]; done)
    · have hk1 : ¬ (k : Int) < (n : Int) := by omega
      have HALL1 := Lib.hid (fun i (hi : i < n) => HALL.out i (by omega))
      clear HALL
      go_wp2
      go_loopw [25] (fun i wr => ∃ (k : Nat), k ≤ m ∧ i = .int .i64 k ∧ Hid (∀ j, j < k → asgOkB n s j = true) ∧ Below w.heap.size w wr ∧ wr.cell? ⟨w.heap.size, 0, none⟩ = some (.slice a n c) ∧ wr.cell? ⟨w.heap.size, 1, none⟩ = some (.slice a' m c')) (fun i _ => m - (intOf i).toNat)
      case atStart => exact ⟨0, by omega, rfl, Lib.hid (fun j hj => by omega), HBEL.out, q0, q1⟩
      case round =>
        clear q0 q1 y1
        obtain ⟨k, hk, rfl, HALL, hbel, q0, q1⟩ := hrel
        have HBEL := Lib.hid hbel
        have y1 : w.heap.size < wr.heap.size := World.block_lt_of_cell? _ _ q0
        clear hbel
        by_cases hlt : k < m
        · have hk1 : (k : Int) < (m : Int) := by omega
          obtain ⟨b, o, e, hb, hc⟩ := HS.out.below HBEL.out (by omega)
          subst e
          have c0 : wr.cell? ⟨b, o + k * 2, none⟩ = some (.string (s.getD k default).f0) := hc k hlt 0 (by omega)
          have c1 : wr.cell? ⟨b, o + k * 2 + 1, none⟩ = some (.int .i64 (s.getD k default).f1) := hc k hlt 1 (by omega)
          clear hc
          have hz := HZ4.out k hlt
          have HNO := Lib.hid (fun h => VA.out k hlt h)
          have HYES := Lib.hid (show asgOkB n s k = true → ∀ j, j < k + 1 → asgOkB n s j = true from fun h j hj => by
            by_cases hjk : j = k
            · subst hjk; exact h
            · exact HALL.out j (by omega))
          have HE := Lib.hid (show asgOkB n s k = (identB (s.getD k default).f0 && inB (s.getD k default).f1 0 ((n : Int) - 1)) from rfl)
          generalize asgOkB n s k = ok at *
          generalize s.getD k default = x at *
          obtain ⟨x0, x1⟩ := x
          dsimp only at c0 c1 hz HE
          have hwrap : IntKind.i64.wrap ((n : Int) - 1) = (n : Int) - 1 := IntWalk.i64_in _ (by omega)
          cases i1 : identB x0
          · have HK : Hid (ok = false) := Lib.hid (by rw [HE.out, i1]; rfl)
            go_wp2_with (go_at_call 103; refine (spec_IsIdentifier_c _ _ (by omega)).mono ?_; rw [i1]; rintro e wn ⟨rfl, hbn⟩; obtain ⟨X, nX, rfl⟩ := Below.ext hbn; clear hbn)
            go_ret
            exact ⟨ret_bool (HNO.out HK.out).symm, Below.trans HBEL.out (by repeat (first | exact Below.refl _ _ | refine Below.drew ?_ | refine Below.alloc ?_ (by first | exact Nat.le_refl _ | (simp; done) | (simp; omega) | omega) _ | refine Below.more ?_ (by first | exact Nat.le_refl _ | (simp; done) | (simp; omega) | omega) _ _ | refine Below.setCell ?_ (by first | exact Nat.le_refl _ | (simp; done) | (simp; omega) | omega) _ | assumption))⟩
          · cases i2 : inB x1 0 ((n : Int) - 1)
            · have HK : Hid (ok = false) := Lib.hid (by rw [HE.out, i1, i2]; rfl)
              go_wp2_with (first | (go_at_call 103; refine (spec_IsIdentifier_c _ _ (by omega)).mono ?_; rw [i1]; rintro e wn ⟨rfl, hbn⟩; obtain ⟨X, nX, rfl⟩ := Below.ext hbn; clear hbn) | (go_at_call 52; refine (l01In_c _ _ _ _).mono ?_; rw [i2]; rintro e w' ⟨rfl, rfl⟩))
              go_ret
              exact ⟨ret_bool (HNO.out HK.out).symm, Below.trans HBEL.out (by repeat (first | exact Below.refl _ _ | refine Below.drew ?_ | refine Below.alloc ?_ (by first | exact Nat.le_refl _ | (simp; done) | (simp; omega) | omega) _ | refine Below.more ?_ (by first | exact Nat.le_refl _ | (simp; done) | (simp; omega) | omega) _ _ | refine Below.setCell ?_ (by first | exact Nat.le_refl _ | (simp; done) | (simp; omega) | omega) _ | assumption))⟩
            · have HK : Hid (ok = true) := Lib.hid (by rw [HE.out, i1, i2]; rfl)
              go_wp2_with (first | (go_at_call 103; refine (spec_IsIdentifier_c _ _ (by omega)).mono ?_; rw [i1]; rintro e wn ⟨rfl, hbn⟩; obtain ⟨X, nX, rfl⟩ := Below.ext hbn; clear hbn) | (go_at_call 52; refine (l01In_c _ _ _ _).mono ?_; rw [i2]; rintro e w' ⟨rfl, rfl⟩))
              refine ⟨⟨k + 1, by omega, rfl, Lib.hid (HYES.out HK.out), Below.trans HBEL.out (by repeat (first | exact Below.refl _ _ | refine Below.drew ?_ | refine Below.alloc ?_ (by first | exact Nat.le_refl _ | (simp; done) | (simp; omega) | omega) _ | refine Below.more ?_ (by first | exact Nat.le_refl _ | (simp; done) | (simp; omega) | omega) _ _ | refine Below.setCell ?_ (by first | exact Nat.le_refl _ | (simp; done) | (simp; omega) | omega) _ | assumption)), ?_, ?_⟩, by simp only [intOf]; omega⟩
              · first | exact q0 | (simp [go_sem, q0, y1]; done)
              · first | exact q1 | (simp [go_sem, q1, y1]; done)
        · have hk1 : ¬ (k : Int) < (m : Int) := by omega
          have HALL2 := Lib.hid (fun i (hi : i < m) => HALL.out i (by omega))
          clear HALL
          have HF := Lib.hid (HFIT.out HALL1.out HALL2.out)
          go_wp2_with (go_at_call 104; refine (HUC.out _ _ (HPR.out _ HBEL.out) HF.out).mono ?_; rintro e wn ⟨U, rfl, hU, hu, hbn⟩; have HBN := Lib.hid hbn; have HU := Lib.hid hu; clear hbn hu)
          have z0 := cell_below HBN.out q0
          have HB3 := Lib.hid (Below.trans HBEL.out (HBN.out.mono (by omega)))
          clear q0 q1
          go_loop [47] (fun i => ∃ (k : Nat), k ≤ n ∧ i = .int .i64 k ∧ Hid (∀ j : Nat, j < k → (useL p).count (j : Int) = 1)) (fun i => n - (intOf i).toNat)
          case atStart => exact ⟨0, by omega, rfl, Lib.hid (fun j hj => by omega)⟩
          case round =>
            obtain ⟨k, hk, rfl, HALL⟩ := hrel
            by_cases hlt : k < n
            · have hk1 : (k : Int) < (n : Int) := by omega
              have k0 := count_cell HU.out hlt
              have HNO := Lib.hid (fun h => VU.out k hlt h)
              have HYES := Lib.hid (show (useL p).count (k : Int) = 1 → ∀ j : Nat, j < k + 1 → (useL p).count (j : Int) = 1 from fun h j hj => by
                by_cases hjk : j = k
                · subst hjk; exact h
                · exact HALL.out j (by omega))
              generalize (useL p).count (k : Int) = cn at *
              cases b1 : ((cn : Int) != 1)
              · have hc1 : cn = 1 := by simp at b1; omega
                have HC1 := Lib.hid hc1
                clear hc1
                go_wp2
                go_round
                case rel => exact ⟨k + 1, by omega, rfl, Lib.hid (HYES.out HC1.out)⟩
                case measure => simp only [intOf]; omega
              · have hc1 : cn ≠ 1 := by intro h; subst h; simp at b1
                have HC1 := Lib.hid (HNO.out hc1)
                clear hc1
                go_wp2
                go_ret
                exact ⟨ret_bool HC1.out.symm, HB3.out⟩
            · have hk1 : ¬ (k : Int) < (n : Int) := by omega
              have HF3 := Lib.hid (VALL.out HALL1.out HALL2.out (fun i hi => HALL.out i (by omega)))
              go_wp2
              go_ret
              exact ⟨ret_bool HF3.out.symm, HB3.out⟩
end Go.Proofs.YtdkjiafdfenbkaaDoor
