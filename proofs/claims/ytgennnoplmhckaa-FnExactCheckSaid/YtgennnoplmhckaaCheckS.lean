/- What Check returns, and the contract of the reference's Check. -/
import Derived.Test.YtgennnoplmhckaaNamesS
namespace Go.Proofs.Ytgennnoplmhckaa
open Go Go.RowKit
def misfit (l : List NodeD) (i : Nat) : Prop := (l.getD i default).f0 = 8 ∧ arityI (l.getD i default).f1 ≠ ((l.getD i default).f3.length : Int)
def twice (s : List AssignmentD) (m k : Nat) : Prop := isVar (nameOf s k) = true ∨ hasB4 s m (nameOf s k) k
def colorS : ByteArray := ⟨#[99, 111, 108, 111, 114]⟩
open Classical in
noncomputable def checkR (p : ProgD) : Int × Int :=
  if validB p = false then (1, 0) else
    match firstBad (unkn p.nodes p.asg p.nA) p.nN with
    | some i => (2, i)
    | none => match firstBad (misfit p.nodes) p.nN with
      | some i => (3, i)
      | none => match firstBad (twice p.asg p.nA) p.nA with
        | some k => (4, k)
        | none => if hasB4 p.asg p.nA colorS p.nA then (0, 0) else (5, 0)
section
variable {p : ProgD}
theorem check1 (h : validB p = false) : checkR p = (1, 0) := by rw [checkR, if_pos h]
theorem check2 (h : validB p = true) {i : Nat} (hi : firstBad (unkn p.nodes p.asg p.nA) p.nN = some i) : checkR p = (2, (i : Int)) := by
  rw [checkR, if_neg (by rw [h]; decide), hi]
theorem check3 (h : validB p = true) (h1 : firstBad (unkn p.nodes p.asg p.nA) p.nN = none) {i : Nat} (hi : firstBad (misfit p.nodes) p.nN = some i) : checkR p = (3, (i : Int)) := by
  rw [checkR, if_neg (by rw [h]; decide), h1]
  simp only [hi]
theorem check4 (h : validB p = true) (h1 : firstBad (unkn p.nodes p.asg p.nA) p.nN = none) (h2 : firstBad (misfit p.nodes) p.nN = none) {k : Nat} (hk : firstBad (twice p.asg p.nA) p.nA = some k) : checkR p = (4, (k : Int)) := by
  rw [checkR, if_neg (by rw [h]; decide), h1]
  simp only [h2, hk]
theorem check0 (h : validB p = true) (h1 : firstBad (unkn p.nodes p.asg p.nA) p.nN = none) (h2 : firstBad (misfit p.nodes) p.nN = none) (h3 : firstBad (twice p.asg p.nA) p.nA = none) (hc : hasB4 p.asg p.nA colorS p.nA) : checkR p = (0, 0) := by
  rw [checkR, if_neg (by rw [h]; decide), h1]
  simp only [h2, h3, if_pos hc]
theorem check5 (h : validB p = true) (h1 : firstBad (unkn p.nodes p.asg p.nA) p.nN = none) (h2 : firstBad (misfit p.nodes) p.nN = none) (h3 : firstBad (twice p.asg p.nA) p.nA = none) (hc : ¬ hasB4 p.asg p.nA colorS p.nA) : checkR p = (5, 0) := by
  rw [checkR, if_neg (by rw [h]; decide), h1]
  simp only [h2, h3, if_neg hc]
end
@[reducible] def chkV (r : Int × Int) : Value := .tuple #[.int .i64 r.1, .int .i64 r.2]
set_option maxRecDepth 100000 in
set_option maxHeartbeats 8000000 in
theorem spec_Check_c (v : Value) (p : ProgD) (w : World) (hr : ProgramR w v p) (hs : ProgramSz 1048576 p) :
    Calls Try.prog 39 #[v] w fun e w' => e = .returned (chkV (checkR p)) ∧ Below w.heap.size w w' := by
  have HVA := Lib.hid (fun (W : World) (hb : Below w.heap.size w W) => spec_IsValidProgram_c v p W (hr.below hb) hs)
  have HAS := Lib.hid (fun (W : World) (hb : Below w.heap.size w W) (x : ByteArray) (b : Int) => l14Assigned_c v p x b W (hr.below hb) hs)
  have HNA := Lib.hid (fun (W : World) (hb : Below w.heap.size w W) => l14Names_c v p W (hr.below hb) hs)
  obtain ⟨a, c, a', c', rfl, ⟨A, K, h1, h2⟩, h3⟩ := hr
  obtain ⟨hs1, hs2, hs3, hs4⟩ := hs
  clear hs3 hs4 h2
  cases hval : validB p
  · have HE := Lib.hid (check1 hval)
    have HV := Lib.hid hval
    clear hval h1 h3
    go_enter Try.func39, Try.ntmps39
    go_wp2_with (go_at_call 35; refine (HVA.out _ (by repeat (first | exact Below.refl _ _ | refine Below.drew ?_ | refine Below.alloc ?_ (by first | exact Nat.le_refl _ | (simp; done) | (simp; omega) | omega) _ | refine Below.more ?_ (by first | exact Nat.le_refl _ | (simp; done) | (simp; omega) | omega) _ _ | refine Below.setCell ?_ (by first | exact Nat.le_refl _ | (simp; done) | (simp; omega) | omega) _ | assumption))).mono ?_; rw [HV.out]; rintro e wn ⟨rfl, hbn⟩; obtain ⟨X, nX, rfl⟩ := Below.ext hbn; clear hbn)
    exact bodyPost_ret (v := chkV (1, 0)) (by simp [results, Try.results39, go_sem]) rfl ⟨by rw [HE.out], (by repeat (first | exact Below.refl _ _ | refine Below.drew ?_ | refine Below.alloc ?_ (by first | exact Nat.le_refl _ | (simp; done) | (simp; omega) | omega) _ | refine Below.more ?_ (by first | exact Nat.le_refl _ | (simp; done) | (simp; omega) | omega) _ _ | refine Below.setCell ?_ (by first | exact Nat.le_refl _ | (simp; done) | (simp; omega) | omega) _ | assumption))⟩
  have HV := Lib.hid hval
  cases hf1 : firstBad (unkn p.nodes p.asg p.nA) p.nN with
  | some i1 =>
    have HE := Lib.hid (check2 hval hf1)
    have HBI := Lib.hid (show badI (unkn p.nodes p.asg p.nA) p.nN = (i1 : Int) by rw [badI, hf1])
    clear h1 h3 hf1
    have HNA2 := Lib.hid (fun W hb => HNA.out W hb hval)
    clear hval
    go_enter Try.func39, Try.ntmps39
    go_wp2_with (first | (go_at_call 35; refine (HVA.out _ (by repeat (first | exact Below.refl _ _ | refine Below.drew ?_ | refine Below.alloc ?_ (by first | exact Nat.le_refl _ | (simp; done) | (simp; omega) | omega) _ | refine Below.more ?_ (by first | exact Nat.le_refl _ | (simp; done) | (simp; omega) | omega) _ _ | refine Below.setCell ?_ (by first | exact Nat.le_refl _ | (simp; done) | (simp; omega) | omega) _ | assumption))).mono ?_; rw [HV.out]; rintro e wn ⟨rfl, hbn⟩; obtain ⟨X, nX, rfl⟩ := Below.ext hbn; clear hbn) | (go_at_call 70; refine (HNA2.out _ (by repeat (first | exact Below.refl _ _ | refine Below.drew ?_ | refine Below.alloc ?_ (by first | exact Nat.le_refl _ | (simp; done) | (simp; omega) | omega) _ | refine Below.more ?_ (by first | exact Nat.le_refl _ | (simp; done) | (simp; omega) | omega) _ _ | refine Below.setCell ?_ (by first | exact Nat.le_refl _ | (simp; done) | (simp; omega) | omega) _ | assumption))).mono ?_; rw [HBI.out]; rintro e wn ⟨rfl, hbn⟩; obtain ⟨X, nX, rfl⟩ := Below.ext hbn; clear hbn))
    exact bodyPost_ret (v := chkV (2, (i1 : Int))) (by simp [results, Try.results39, go_sem]) rfl ⟨by rw [HE.out], (by repeat (first | exact Below.refl _ _ | refine Below.drew ?_ | refine Below.alloc ?_ (by first | exact Nat.le_refl _ | (simp; done) | (simp; omega) | omega) _ | refine Below.more ?_ (by first | exact Nat.le_refl _ | (simp; done) | (simp; omega) | omega) _ _ | refine Below.setCell ?_ (by first | exact Nat.le_refl _ | (simp; done) | (simp; omega) | omega) _ | assumption))⟩
  | none =>
    have HBI := Lib.hid (show badI (unkn p.nodes p.asg p.nA) p.nN = -1 by rw [badI, hf1])
    have HNA2 := Lib.hid (fun W hb => HNA.out W hb hval)
    have C3 := Lib.hid (fun i hi => check3 hval hf1 (i := i) hi)
    have C4 := Lib.hid (fun g2 k hk => check4 hval hf1 g2 (k := k) hk)
    have C0 := Lib.hid (fun g2 g3 hc => check0 hval hf1 g2 g3 hc)
    have C5 := Lib.hid (fun g2 g3 hc => check5 hval hf1 g2 g3 hc)
    have M1 := Lib.hid (fun i h1 h2 h3 => firstBad_at (P := misfit p.nodes) (n := p.nN) (i := i) h1 h2 h3)
    have M0 := Lib.hid (fun h => firstBad_none (P := misfit p.nodes) (n := p.nN) h)
    have T1 := Lib.hid (fun i h1 h2 h3 => firstBad_at (P := twice p.asg p.nA) (n := p.nA) (i := i) h1 h2 h3)
    have T0 := Lib.hid (fun h => firstBad_none (P := twice p.asg p.nA) (n := p.nA) h)
    have UM := Lib.hid (show ∀ i, misfit p.nodes i ↔ ((p.nodes.getD i default).f0 = 8 ∧ arityI (p.nodes.getD i default).f1 ≠ ((p.nodes.getD i default).f3.length : Int)) from fun _ => Iff.rfl)
    have UT := Lib.hid (show ∀ k, twice p.asg p.nA k ↔ (isVar (nameOf p.asg k) = true ∨ hasB4 p.asg p.nA (nameOf p.asg k) k) from fun _ => Iff.rfl)
    clear hval hf1
    generalize checkR p = res at *
    generalize misfit p.nodes = mis at *
    generalize twice p.asg p.nA = twi at *
    generalize badI (unkn p.nodes p.asg p.nA) p.nN = bi at *
    generalize p.nN = n at *
    generalize p.nA = m at *
    generalize p.nodes = l at *
    generalize p.asg = s at *
    have HR := Lib.hid h1
    have HS := Lib.hid h3
    clear h1 h3
    go_enter Try.func39, Try.ntmps39
    go_wp2_with (first | (go_at_call 35; refine (HVA.out _ (by repeat (first | exact Below.refl _ _ | refine Below.drew ?_ | refine Below.alloc ?_ (by first | exact Nat.le_refl _ | (simp; done) | (simp; omega) | omega) _ | refine Below.more ?_ (by first | exact Nat.le_refl _ | (simp; done) | (simp; omega) | omega) _ _ | refine Below.setCell ?_ (by first | exact Nat.le_refl _ | (simp; done) | (simp; omega) | omega) _ | assumption))).mono ?_; rw [HV.out]; rintro e wn ⟨rfl, hbn⟩; obtain ⟨X, nX, rfl⟩ := Below.ext hbn; clear hbn) | (go_at_call 70; refine (HNA2.out _ (by repeat (first | exact Below.refl _ _ | refine Below.drew ?_ | refine Below.alloc ?_ (by first | exact Nat.le_refl _ | (simp; done) | (simp; omega) | omega) _ | refine Below.more ?_ (by first | exact Nat.le_refl _ | (simp; done) | (simp; omega) | omega) _ _ | refine Below.setCell ?_ (by first | exact Nat.le_refl _ | (simp; done) | (simp; omega) | omega) _ | assumption))).mono ?_; rw [HBI.out]; rintro e wn ⟨rfl, hbn⟩; obtain ⟨X, nX, rfl⟩ := Below.ext hbn; clear hbn))
    go_loopw [20] (fun i wr => ∃ (k : Nat), k ≤ n ∧ i = .int .i64 k ∧ Hid (∀ j, j < k → ¬ mis j) ∧ Below w.heap.size w wr ∧ wr.cell? ⟨w.heap.size, 0, none⟩ = some (.slice a n c) ∧ wr.cell? ⟨w.heap.size, 1, none⟩ = some (.slice a' m c')) (fun i _ => n - (intOf i).toNat)
    case atStart => exact ⟨0, by omega, rfl, Lib.hid (fun j hj => by omega), (by repeat (first | exact Below.refl _ _ | refine Below.drew ?_ | refine Below.alloc ?_ (by first | exact Nat.le_refl _ | (simp; done) | (simp; omega) | omega) _ | refine Below.more ?_ (by first | exact Nat.le_refl _ | (simp; done) | (simp; omega) | omega) _ _ | refine Below.setCell ?_ (by first | exact Nat.le_refl _ | (simp; done) | (simp; omega) | omega) _ | assumption)), by simp [go_sem], by simp [go_sem]⟩
    case round =>
      obtain ⟨k, hk, rfl, HALL, hbel, q0, q1⟩ := hrel
      have HBEL := Lib.hid hbel
      have y1 : w.heap.size < wr.heap.size := World.block_lt_of_cell? _ _ q0
      clear hbel
      by_cases hlt : k < n
      · have hk1 : (k : Int) < (n : Int) := by omega
        obtain ⟨b, o, e, hb, hc⟩ := HR.out.below HBEL.out (by omega)
        subst e
        have c0 : wr.cell? ⟨b, o + k * 4, none⟩ = some (.int .i64 (l.getD k default).f0) := hc k hlt 0 (by omega)
        have c1 : wr.cell? ⟨b, o + k * 4 + 1, none⟩ = some (.string (l.getD k default).f1) := hc k hlt 1 (by omega)
        have c2 : wr.cell? ⟨b, o + k * 4 + 2, none⟩ = some (.int .i64 (l.getD k default).f2) := hc k hlt 2 (by omega)
        have c3 : wr.cell? ⟨b, o + k * 4 + 3, none⟩ = some (.slice (A k) (l.getD k default).f3.length (K k)) := hc k hlt 3 (by omega)
        clear hc
        have HB := Lib.hid (UM.out k)
        have HNX := Lib.hid (show ¬ mis k → ∀ j, j < k + 1 → ¬ mis j from fun h j hj => by
          by_cases e : j = k
          · subst e; exact h
          · exact HALL.out j (by omega))
        have HBD := Lib.hid (show mis k → res = (3, (k : Int)) from fun h => C3.out k (M1.out k hlt h HALL.out))
        generalize A k = ak at *
        generalize K k = kk at *
        generalize (l.getD k default).f3.length = n3 at *
        generalize l.getD k default = x at *
        obtain ⟨x0, x1, x2, x3⟩ := x
        dsimp only at c0 c1 c2 HB
        by_cases h8 : x0 = 8
        · subst h8
          cases hb1 : (arityI x1 != (n3 : Int))
          · have HF := Lib.hid (HNX.out (fun h => (HB.out.1 h).2 (by simpa using hb1)))
            go_wp2
            (first | refine region_q2 (by kernel_rfl) (by kernel_rfl) ?_ | refine region_q (by kernel_rfl) (by kernel_rfl) ?_)
            repeat (first | go_big_quiet_skip | (go_big_quiet_want; go_simp; go_big_quiet_on))
            (refine wpQuiet_step (fun K hK => ?_); go_simp; refine ⟨_, fun zt => ext_same (spec_Arity x1 _), hK _ ?_⟩; clear hK K)
            repeat (first | go_big_quiet_skip | (go_big_quiet_want; go_simp; go_big_quiet_on))
            (refine wpQuiet_nil ?_; intro X nX)
            go_wp2
            refine ⟨⟨k + 1, by omega, rfl, HF, Below.trans HBEL.out (by repeat (first | exact Below.refl _ _ | refine Below.drew ?_ | refine Below.alloc ?_ (by first | exact Nat.le_refl _ | (simp; done) | (simp; omega) | omega) _ | refine Below.more ?_ (by first | exact Nat.le_refl _ | (simp; done) | (simp; omega) | omega) _ _ | refine Below.setCell ?_ (by first | exact Nat.le_refl _ | (simp; done) | (simp; omega) | omega) _ | assumption)), cell_below (show Below wr.heap.size wr _ from (by repeat (first | exact Below.refl _ _ | refine Below.drew ?_ | refine Below.alloc ?_ (by first | exact Nat.le_refl _ | (simp; done) | (simp; omega) | omega) _ | refine Below.more ?_ (by first | exact Nat.le_refl _ | (simp; done) | (simp; omega) | omega) _ _ | refine Below.setCell ?_ (by first | exact Nat.le_refl _ | (simp; done) | (simp; omega) | omega) _ | assumption))) q0, cell_below (show Below wr.heap.size wr _ from (by repeat (first | exact Below.refl _ _ | refine Below.drew ?_ | refine Below.alloc ?_ (by first | exact Nat.le_refl _ | (simp; done) | (simp; omega) | omega) _ | refine Below.more ?_ (by first | exact Nat.le_refl _ | (simp; done) | (simp; omega) | omega) _ _ | refine Below.setCell ?_ (by first | exact Nat.le_refl _ | (simp; done) | (simp; omega) | omega) _ | assumption))) q1⟩, by simp only [intOf]; omega⟩
          · have HF := Lib.hid (HBD.out (HB.out.2 ⟨rfl, by simpa using hb1⟩))
            go_wp2
            (first | refine region_q2 (by kernel_rfl) (by kernel_rfl) ?_ | refine region_q (by kernel_rfl) (by kernel_rfl) ?_)
            repeat (first | go_big_quiet_skip | (go_big_quiet_want; go_simp; go_big_quiet_on))
            (refine wpQuiet_step (fun K hK => ?_); go_simp; refine ⟨_, fun zt => ext_same (spec_Arity x1 _), hK _ ?_⟩; clear hK K)
            repeat (first | go_big_quiet_skip | (go_big_quiet_want; go_simp; go_big_quiet_on))
            (refine wpQuiet_nil ?_; intro X nX)
            go_wp2
            exact bodyPost_ret (v := chkV (3, (k : Int))) (by simp [results, Try.results39, go_sem]) rfl ⟨by rw [HF.out], Below.trans HBEL.out (by repeat (first | exact Below.refl _ _ | refine Below.drew ?_ | refine Below.alloc ?_ (by first | exact Nat.le_refl _ | (simp; done) | (simp; omega) | omega) _ | refine Below.more ?_ (by first | exact Nat.le_refl _ | (simp; done) | (simp; omega) | omega) _ _ | refine Below.setCell ?_ (by first | exact Nat.le_refl _ | (simp; done) | (simp; omega) | omega) _ | assumption))⟩
        · have q8 : (x0 == 8) = false := by simpa using h8
          have HF := Lib.hid (HNX.out (fun h => h8 (HB.out.1 h).1))
          clear h8
          go_wp2
          (first | refine region_q2 (by kernel_rfl) (by kernel_rfl) ?_ | refine region_q (by kernel_rfl) (by kernel_rfl) ?_)
          repeat (first | go_big_quiet_skip | (go_big_quiet_want; go_simp; go_big_quiet_on))
          (refine wpQuiet_nil ?_; intro X nX)
          go_wp2
          refine ⟨⟨k + 1, by omega, rfl, HF, Below.trans HBEL.out (by repeat (first | exact Below.refl _ _ | refine Below.drew ?_ | refine Below.alloc ?_ (by first | exact Nat.le_refl _ | (simp; done) | (simp; omega) | omega) _ | refine Below.more ?_ (by first | exact Nat.le_refl _ | (simp; done) | (simp; omega) | omega) _ _ | refine Below.setCell ?_ (by first | exact Nat.le_refl _ | (simp; done) | (simp; omega) | omega) _ | assumption)), cell_below (show Below wr.heap.size wr _ from (by repeat (first | exact Below.refl _ _ | refine Below.drew ?_ | refine Below.alloc ?_ (by first | exact Nat.le_refl _ | (simp; done) | (simp; omega) | omega) _ | refine Below.more ?_ (by first | exact Nat.le_refl _ | (simp; done) | (simp; omega) | omega) _ _ | refine Below.setCell ?_ (by first | exact Nat.le_refl _ | (simp; done) | (simp; omega) | omega) _ | assumption))) q0, cell_below (show Below wr.heap.size wr _ from (by repeat (first | exact Below.refl _ _ | refine Below.drew ?_ | refine Below.alloc ?_ (by first | exact Nat.le_refl _ | (simp; done) | (simp; omega) | omega) _ | refine Below.more ?_ (by first | exact Nat.le_refl _ | (simp; done) | (simp; omega) | omega) _ _ | refine Below.setCell ?_ (by first | exact Nat.le_refl _ | (simp; done) | (simp; omega) | omega) _ | assumption))) q1⟩, by simp only [intOf]; omega⟩
      · have hk1 : ¬ (k : Int) < (n : Int) := by omega
        have HM0 := Lib.hid (M0.out (fun j hj => HALL.out j (by omega)))
        have D4 := Lib.hid (fun k hk => C4.out HM0.out k hk)
        have D0 := Lib.hid (fun g3 hc => C0.out HM0.out g3 hc)
        have D5 := Lib.hid (fun g3 hc => C5.out HM0.out g3 hc)
        clear HALL
        go_wp2
        go_loopw [42] (fun i wr => ∃ (k : Nat), k ≤ m ∧ i = .int .i64 k ∧ Hid (∀ j, j < k → ¬ twi j) ∧ Below w.heap.size w wr ∧ wr.cell? ⟨w.heap.size, 0, none⟩ = some (.slice a n c) ∧ wr.cell? ⟨w.heap.size, 1, none⟩ = some (.slice a' m c')) (fun i _ => m - (intOf i).toNat)
        case atStart => exact ⟨0, by omega, rfl, Lib.hid (fun j hj => by omega), HBEL.out, q0, q1⟩
        case round =>
          clear q0 q1 HBEL y1
          obtain ⟨k, hk, rfl, HALL, hbel, q0, q1⟩ := hrel
          have HBEL := Lib.hid hbel
          have y1 : w.heap.size < wr.heap.size := World.block_lt_of_cell? _ _ q0
          clear hbel
          by_cases hlt : k < m
          · have hk1 : (k : Int) < (m : Int) := by omega
            obtain ⟨b, o, e, hb, hc⟩ := HS.out.below HBEL.out (by omega)
            subst e
            have c0 : wr.cell? ⟨b, o + k * 2, none⟩ = some (.string (nameOf s k)) := hc k hlt 0 (by omega)
            have c1 : wr.cell? ⟨b, o + k * 2 + 1, none⟩ = some (.int .i64 (s.getD k default).f1) := hc k hlt 1 (by omega)
            clear hc
            generalize (s.getD k default).f1 = r1 at *
            have HB := Lib.hid (UT.out k)
            have HNX := Lib.hid (show ¬ twi k → ∀ j, j < k + 1 → ¬ twi j from fun h j hj => by
              by_cases e : j = k
              · subst e; exact h
              · exact HALL.out j (by omega))
            have HBD := Lib.hid (show twi k → res = (4, (k : Int)) from fun h => D4.out k (T1.out k hlt h HALL.out))
            generalize nameOf s k = nm at *
            have HLH := Lib.hid (lastTo_has s nm (k : Int) m)
            have HAS2 := Lib.hid (fun (W : World) (hb : Below wr.heap.size wr W) => HAS.out W (HBEL.out.trans (hb.mono (Nat.le_of_lt y1))) nm (k : Int))
            generalize lastTo s nm (k : Int) m = lt at *
            cases hv : isVar nm
            · by_cases hl0 : 0 ≤ lt
              · have HF := Lib.hid (HBD.out (HB.out.2 (.inr (HLH.out.1 hl0))))
                have HV2 := Lib.hid hv
                clear hv
                go_wp2_with (first | (go_at_call 72; refine (spec_IsVariable _ _).mono ?_; rw [HV2.out]; rintro e wn ⟨rfl, hbn⟩; obtain ⟨X, nX, rfl⟩ := Below.ext hbn; clear hbn) | (go_at_call 73; refine (HAS2.out _ (by repeat (first | exact Below.refl _ _ | refine Below.drew ?_ | refine Below.alloc ?_ (by first | exact Nat.le_refl _ | (simp; done) | (simp; omega) | omega) _ | refine Below.more ?_ (by first | exact Nat.le_refl _ | (simp; done) | (simp; omega) | omega) _ _ | refine Below.setCell ?_ (by first | exact Nat.le_refl _ | (simp; done) | (simp; omega) | omega) _ | assumption))).mono ?_; rintro e wn ⟨rfl, hbn⟩; obtain ⟨X, nX, rfl⟩ := Below.ext hbn; clear hbn))
                exact bodyPost_ret (v := chkV (4, (k : Int))) (by simp [results, Try.results39, go_sem]) rfl ⟨by rw [HF.out], Below.trans HBEL.out (by repeat (first | exact Below.refl _ _ | refine Below.drew ?_ | refine Below.alloc ?_ (by first | exact Nat.le_refl _ | (simp; done) | (simp; omega) | omega) _ | refine Below.more ?_ (by first | exact Nat.le_refl _ | (simp; done) | (simp; omega) | omega) _ _ | refine Below.setCell ?_ (by first | exact Nat.le_refl _ | (simp; done) | (simp; omega) | omega) _ | assumption))⟩
              · have HF := Lib.hid (HNX.out (fun h => by
                  rcases HB.out.1 h with h' | h'
                  · rw [hv] at h'; cases h'
                  · exact hl0 (HLH.out.2 h')))
                have HV2 := Lib.hid hv
                clear hv
                go_wp2_with (first | (go_at_call 72; refine (spec_IsVariable _ _).mono ?_; rw [HV2.out]; rintro e wn ⟨rfl, hbn⟩; obtain ⟨X, nX, rfl⟩ := Below.ext hbn; clear hbn) | (go_at_call 73; refine (HAS2.out _ (by repeat (first | exact Below.refl _ _ | refine Below.drew ?_ | refine Below.alloc ?_ (by first | exact Nat.le_refl _ | (simp; done) | (simp; omega) | omega) _ | refine Below.more ?_ (by first | exact Nat.le_refl _ | (simp; done) | (simp; omega) | omega) _ _ | refine Below.setCell ?_ (by first | exact Nat.le_refl _ | (simp; done) | (simp; omega) | omega) _ | assumption))).mono ?_; rintro e wn ⟨rfl, hbn⟩; obtain ⟨X, nX, rfl⟩ := Below.ext hbn; clear hbn))
                refine ⟨⟨k + 1, by omega, rfl, HF, Below.trans HBEL.out (by repeat (first | exact Below.refl _ _ | refine Below.drew ?_ | refine Below.alloc ?_ (by first | exact Nat.le_refl _ | (simp; done) | (simp; omega) | omega) _ | refine Below.more ?_ (by first | exact Nat.le_refl _ | (simp; done) | (simp; omega) | omega) _ _ | refine Below.setCell ?_ (by first | exact Nat.le_refl _ | (simp; done) | (simp; omega) | omega) _ | assumption)), cell_below (show Below wr.heap.size wr _ from (by repeat (first | exact Below.refl _ _ | refine Below.drew ?_ | refine Below.alloc ?_ (by first | exact Nat.le_refl _ | (simp; done) | (simp; omega) | omega) _ | refine Below.more ?_ (by first | exact Nat.le_refl _ | (simp; done) | (simp; omega) | omega) _ _ | refine Below.setCell ?_ (by first | exact Nat.le_refl _ | (simp; done) | (simp; omega) | omega) _ | assumption))) q0, cell_below (show Below wr.heap.size wr _ from (by repeat (first | exact Below.refl _ _ | refine Below.drew ?_ | refine Below.alloc ?_ (by first | exact Nat.le_refl _ | (simp; done) | (simp; omega) | omega) _ | refine Below.more ?_ (by first | exact Nat.le_refl _ | (simp; done) | (simp; omega) | omega) _ _ | refine Below.setCell ?_ (by first | exact Nat.le_refl _ | (simp; done) | (simp; omega) | omega) _ | assumption))) q1⟩, by simp only [intOf]; omega⟩
            · have HF := Lib.hid (HBD.out (HB.out.2 (.inl hv)))
              have HV2 := Lib.hid hv
              clear hv
              go_wp2_with (go_at_call 72; refine (spec_IsVariable _ _).mono ?_; rw [HV2.out]; rintro e wn ⟨rfl, hbn⟩; obtain ⟨X, nX, rfl⟩ := Below.ext hbn; clear hbn)
              exact bodyPost_ret (v := chkV (4, (k : Int))) (by simp [results, Try.results39, go_sem]) rfl ⟨by rw [HF.out], Below.trans HBEL.out (by repeat (first | exact Below.refl _ _ | refine Below.drew ?_ | refine Below.alloc ?_ (by first | exact Nat.le_refl _ | (simp; done) | (simp; omega) | omega) _ | refine Below.more ?_ (by first | exact Nat.le_refl _ | (simp; done) | (simp; omega) | omega) _ _ | refine Below.setCell ?_ (by first | exact Nat.le_refl _ | (simp; done) | (simp; omega) | omega) _ | assumption))⟩
          · have hk1 : ¬ (k : Int) < (m : Int) := by omega
            obtain rfl : k = m := by omega
            have HT0 := Lib.hid (T0.out HALL.out)
            have HLH := Lib.hid (lastTo_has s colorS (k : Int) k)
            have HAS2 := Lib.hid (fun (W : World) (hb : Below wr.heap.size wr W) => HAS.out W (HBEL.out.trans (hb.mono (Nat.le_of_lt y1))) colorS (k : Int))
            generalize lastTo s colorS (k : Int) k = lt at *
            by_cases hl0 : lt < 0
            · have HF := Lib.hid (D5.out HT0.out (fun h => by have := HLH.out.2 h; omega))
              go_wp2_with (go_at_call 73; refine (HAS2.out _ (by repeat (first | exact Below.refl _ _ | refine Below.drew ?_ | refine Below.alloc ?_ (by first | exact Nat.le_refl _ | (simp; done) | (simp; omega) | omega) _ | refine Below.more ?_ (by first | exact Nat.le_refl _ | (simp; done) | (simp; omega) | omega) _ _ | refine Below.setCell ?_ (by first | exact Nat.le_refl _ | (simp; done) | (simp; omega) | omega) _ | assumption))).mono ?_; rintro e wn ⟨rfl, hbn⟩; obtain ⟨X, nX, rfl⟩ := Below.ext hbn; clear hbn)
              exact bodyPost_ret (v := chkV (5, 0)) (by simp [results, Try.results39, go_sem]) rfl ⟨by rw [HF.out], Below.trans HBEL.out (by repeat (first | exact Below.refl _ _ | refine Below.drew ?_ | refine Below.alloc ?_ (by first | exact Nat.le_refl _ | (simp; done) | (simp; omega) | omega) _ | refine Below.more ?_ (by first | exact Nat.le_refl _ | (simp; done) | (simp; omega) | omega) _ _ | refine Below.setCell ?_ (by first | exact Nat.le_refl _ | (simp; done) | (simp; omega) | omega) _ | assumption))⟩
            · have HF := Lib.hid (D0.out HT0.out (HLH.out.1 (by omega)))
              go_wp2_with (go_at_call 73; refine (HAS2.out _ (by repeat (first | exact Below.refl _ _ | refine Below.drew ?_ | refine Below.alloc ?_ (by first | exact Nat.le_refl _ | (simp; done) | (simp; omega) | omega) _ | refine Below.more ?_ (by first | exact Nat.le_refl _ | (simp; done) | (simp; omega) | omega) _ _ | refine Below.setCell ?_ (by first | exact Nat.le_refl _ | (simp; done) | (simp; omega) | omega) _ | assumption))).mono ?_; rintro e wn ⟨rfl, hbn⟩; obtain ⟨X, nX, rfl⟩ := Below.ext hbn; clear hbn)
              exact bodyPost_ret (v := chkV (0, 0)) (by simp [results, Try.results39, go_sem]) rfl ⟨by rw [HF.out], Below.trans HBEL.out (by repeat (first | exact Below.refl _ _ | refine Below.drew ?_ | refine Below.alloc ?_ (by first | exact Nat.le_refl _ | (simp; done) | (simp; omega) | omega) _ | refine Below.more ?_ (by first | exact Nat.le_refl _ | (simp; done) | (simp; omega) | omega) _ _ | refine Below.setCell ?_ (by first | exact Nat.le_refl _ | (simp; done) | (simp; omega) | omega) _ | assumption))⟩
end Go.Proofs.Ytgennnoplmhckaa
