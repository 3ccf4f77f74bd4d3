/- Contracts of SameProgram. -/
import Derived.Test.YtgennnoplmhckaaProgram
import Derived.Test.YtgennnoplmhckaaEq
namespace Go.Proofs.Ytgennnoplmhckaa
open Go Go.RowKit
def intsEq (l l' : List Int) (n n' : Nat) : Bool := decide (n = n') && decide (∀ i, i < n → l.getD i 0 = l'.getD i 0)
def asgEq (x y : AssignmentD) : Bool := asgEqB x.f0 y.f0 x.f1 y.f1
def asgsEq (l l' : List AssignmentD) (n n' : Nat) : Bool := decide (n = n') && decide (∀ i, i < n → asgEq (l.getD i default) (l'.getD i default) = true)
def nodeEq (x y : NodeD) : Bool := (x.f0 == y.f0) && (x.f1.toList == y.f1.toList) && (x.f2 == y.f2) && intsEq x.f3 y.f3 x.f3.length y.f3.length
def nodesEq (l l' : List NodeD) (n n' : Nat) : Bool := decide (n = n') && decide (∀ i, i < n → nodeEq (l.getD i default) (l'.getD i default) = true)
def progEq (p q : ProgD) : Bool := nodesEq p.nodes q.nodes p.nN q.nN && asgsEq p.asg q.asg p.nA q.nA
set_option maxRecDepth 100000 in
set_option maxHeartbeats 1000000 in
theorem equal_ints (a a' : Option Addr) (cap cap' : Nat) (l l' : List Int) (n n' : Nat) (w : World) (hr : Sl w a 1 n (intAt l)) (hr' : Sl w a' 1 n' (intAt l')) (hn : n ≤ 1048576) (hn' : n' ≤ 1048576) :
    Calls Try.prog 86 #[.slice a n cap, .slice a' n' cap'] w fun e w' => e = .returned (.bool (intsEq l l' n n')) ∧ Below w.heap.size w w' := by
  have HR := Lib.hid hr
  have HR' := Lib.hid hr'
  clear hr hr'
  by_cases hnn : n = n'
  · subst hnn
    have hb0 : ((n : Int) != (n : Int)) = false := by simp
    go_enter Try.func86, Try.ntmps86
    go_wp2
    go_loopw [13] (fun i wr => ∃ (k d : Nat) (X0 : Array Obj), k ≤ n ∧ i = .int .i64 k ∧ (∀ i, i < k → l.getD i 0 = l'.getD i 0) ∧ wr = more w X0 d) (fun i _ => n - (intOf i).toNat)
    case atStart => exact ⟨0, _, #[], by omega, rfl, fun i hi => by omega, more_self' w⟩
    case round =>
      obtain ⟨k, d, X0, hk, rfl, hall, rfl⟩ := hrel
      have HALL := Lib.hid hall
      clear hall
      by_cases hlt : k < n
      · have hk1 : (k : Int) < (n : Int) := by omega
        have hk0 : (0 : Int) ≤ (k : Int) := by omega
        obtain ⟨b, o, rfl, hb, hc⟩ := HR.out (by omega)
        have c0 : w.cell? ⟨b, o + k, none⟩ = some (.int .i64 (l.getD k 0)) := by have := hc k hlt 0 (by omega); rw [Nat.mul_one, Nat.add_zero] at this; exact this
        obtain ⟨b', o', rfl, hb', hc'⟩ := HR'.out (by omega)
        have e0 : w.cell? ⟨b', o' + k, none⟩ = some (.int .i64 (l'.getD k 0)) := by have := hc' k hlt 0 (by omega); rw [Nat.mul_one, Nat.add_zero] at this; exact this
        clear hc hc'
        have HS1 := Lib.hid (show l.getD k 0 = l'.getD k 0 → ∀ i, i < k + 1 → l.getD i 0 = l'.getD i 0 from fun q i hi => by
          by_cases hik : i = k
          · subst hik; exact q
          · exact HALL.out i (by omega))
        have HS2 := Lib.hid (show l.getD k 0 ≠ l'.getD k 0 → intsEq l l' n n = false from fun q => by
          simp only [intsEq, Bool.and_eq_false_iff, decide_eq_false_iff_not]
          exact .inr fun h => q (h k hlt))
        generalize l.getD k 0 = x at *
        generalize l'.getD k 0 = y at *
        cases hq : (x != y)
        all_goals
          go_wp2
          (first | refine region_q2 (by kernel_rfl) (by kernel_rfl) ?_ | refine region_q (by kernel_rfl) (by kernel_rfl) ?_)
          repeat (quiet_step (fail))
          (refine wpQuiet_nil ?_; intro X nX)
          go_wp2
        · exact ⟨⟨k + 1, _, _, by omega, rfl, HS1.out (by simpa using hq), rfl⟩, by simp only [intOf]; omega⟩
        · go_ret
          exact ⟨ret_bool (HS2.out (by simpa using hq)).symm, (by repeat (first | exact Below.refl _ _ | refine Below.drew ?_ | refine Below.alloc ?_ (by first | exact Nat.le_refl _ | (simp; done) | (simp; omega) | omega) _ | refine Below.more ?_ (by first | exact Nat.le_refl _ | (simp; done) | (simp; omega) | omega) _ _ | refine Below.setCell ?_ (by first | exact Nat.le_refl _ | (simp; done) | (simp; omega) | omega) _ | assumption))⟩
      · have hk' : k = n := by omega
        have HF := Lib.hid (show intsEq l l' n n = true by
          simp only [intsEq, decide_true, Bool.true_and, decide_eq_true_eq]
          intro i hi; exact HALL.out i (by omega))
        have HK := Lib.hid hk'
        clear hk'
        go_wp2
        go_ret
        exact ⟨ret_bool HF.out.symm, (by repeat (first | exact Below.refl _ _ | refine Below.drew ?_ | refine Below.alloc ?_ (by first | exact Nat.le_refl _ | (simp; done) | (simp; omega) | omega) _ | refine Below.more ?_ (by first | exact Nat.le_refl _ | (simp; done) | (simp; omega) | omega) _ _ | refine Below.setCell ?_ (by first | exact Nat.le_refl _ | (simp; done) | (simp; omega) | omega) _ | assumption))⟩
  · have hb0 : ((n : Int) != (n' : Int)) = true := by rw [bne_iff_ne]; omega
    have HF := Lib.hid (show intsEq l l' n n' = false by simp [intsEq, hnn])
    clear hnn
    go_enter Try.func86, Try.ntmps86
    go_wp2
    go_ret
    exact ⟨ret_bool HF.out.symm, (by repeat (first | exact Below.refl _ _ | refine Below.drew ?_ | refine Below.alloc ?_ (by first | exact Nat.le_refl _ | (simp; done) | (simp; omega) | omega) _ | refine Below.more ?_ (by first | exact Nat.le_refl _ | (simp; done) | (simp; omega) | omega) _ _ | refine Below.setCell ?_ (by first | exact Nat.le_refl _ | (simp; done) | (simp; omega) | omega) _ | assumption))⟩
set_option maxRecDepth 100000 in
set_option maxHeartbeats 1000000 in
theorem equal_asgs (a a' : Option Addr) (cap cap' : Nat) (l l' : List AssignmentD) (n n' : Nat) (w : World) (hr : Sl w a 2 n (AssignmentD.at l)) (hr' : Sl w a' 2 n' (AssignmentD.at l')) (hn : n ≤ 1048576) (hn' : n' ≤ 1048576) :
    Calls Try.prog 55 #[.slice a n cap, .slice a' n' cap'] w fun e w' => e = .returned (.bool (asgsEq l l' n n')) ∧ Below w.heap.size w w' := by
  have HR := Lib.hid hr
  have HR' := Lib.hid hr'
  clear hr hr'
  by_cases hnn : n = n'
  · subst hnn
    have hb0 : ((n : Int) != (n : Int)) = false := by simp
    go_enter Try.func55, Try.ntmps55
    go_wp2
    go_loopw [13] (fun i wr => ∃ (k d : Nat) (X0 : Array Obj), k ≤ n ∧ i = .int .i64 k ∧ (∀ i, i < k → asgEq (l.getD i default) (l'.getD i default) = true) ∧ wr = more w X0 d) (fun i _ => n - (intOf i).toNat)
    case atStart => exact ⟨0, _, #[], by omega, rfl, fun i hi => by omega, more_self' w⟩
    case round =>
      obtain ⟨k, d, X0, hk, rfl, hall, rfl⟩ := hrel
      have HALL := Lib.hid hall
      clear hall
      by_cases hlt : k < n
      · have hk1 : (k : Int) < (n : Int) := by omega
        have hk0 : (0 : Int) ≤ (k : Int) := by omega
        obtain ⟨b, o, rfl, hb, hc⟩ := HR.out (by omega)
        have c0 : w.cell? ⟨b, o + k * 2, none⟩ = some (.string (l.getD k default).f0) := hc k hlt 0 (by omega)
        have c1 : w.cell? ⟨b, o + k * 2 + 1, none⟩ = some (.int .i64 (l.getD k default).f1) := hc k hlt 1 (by omega)
        obtain ⟨b', o', rfl, hb', hc'⟩ := HR'.out (by omega)
        have e0 : w.cell? ⟨b', o' + k * 2, none⟩ = some (.string (l'.getD k default).f0) := hc' k hlt 0 (by omega)
        have e1 : w.cell? ⟨b', o' + k * 2 + 1, none⟩ = some (.int .i64 (l'.getD k default).f1) := hc' k hlt 1 (by omega)
        clear hc hc'
        have HS1 := Lib.hid (show asgEq (l.getD k default) (l'.getD k default) = true → ∀ i, i < k + 1 → asgEq (l.getD i default) (l'.getD i default) = true from fun q i hi => by
          by_cases hik : i = k
          · subst hik; exact q
          · exact HALL.out i (by omega))
        have HS2 := Lib.hid (show asgEq (l.getD k default) (l'.getD k default) = false → asgsEq l l' n n = false from fun q => by
          simp only [asgsEq, Bool.and_eq_false_iff, decide_eq_false_iff_not]
          exact .inr fun h => by rw [h k hlt] at q; cases q)
        generalize l.getD k default = x at *
        generalize l'.getD k default = y at *
        obtain ⟨x0, x1⟩ := x
        obtain ⟨y0, y1⟩ := y
        dsimp only at c0 c1 e0 e1
        cases hq : asgEqB x0 y0 x1 y1
        all_goals
          go_wp2
          (first | refine region_q2 (by kernel_rfl) (by kernel_rfl) ?_ | refine region_q (by kernel_rfl) (by kernel_rfl) ?_)
          repeat (quiet_step (fail))
          (refine wpQuiet_nil ?_; intro X nX)
          go_wp2
        · go_ret
          exact ⟨ret_bool (HS2.out hq).symm, (by repeat (first | exact Below.refl _ _ | refine Below.drew ?_ | refine Below.alloc ?_ (by first | exact Nat.le_refl _ | (simp; done) | (simp; omega) | omega) _ | refine Below.more ?_ (by first | exact Nat.le_refl _ | (simp; done) | (simp; omega) | omega) _ _ | refine Below.setCell ?_ (by first | exact Nat.le_refl _ | (simp; done) | (simp; omega) | omega) _ | assumption))⟩
        · exact ⟨⟨k + 1, _, _, by omega, rfl, HS1.out hq, rfl⟩, by simp only [intOf]; omega⟩
      · have hk' : k = n := by omega
        have HF := Lib.hid (show asgsEq l l' n n = true by
          simp only [asgsEq, decide_true, Bool.true_and, decide_eq_true_eq]
          intro i hi; exact HALL.out i (by omega))
        have HK := Lib.hid hk'
        clear hk'
        go_wp2
        go_ret
        exact ⟨ret_bool HF.out.symm, (by repeat (first | exact Below.refl _ _ | refine Below.drew ?_ | refine Below.alloc ?_ (by first | exact Nat.le_refl _ | (simp; done) | (simp; omega) | omega) _ | refine Below.more ?_ (by first | exact Nat.le_refl _ | (simp; done) | (simp; omega) | omega) _ _ | refine Below.setCell ?_ (by first | exact Nat.le_refl _ | (simp; done) | (simp; omega) | omega) _ | assumption))⟩
  · have hb0 : ((n : Int) != (n' : Int)) = true := by rw [bne_iff_ne]; omega
    have HF := Lib.hid (show asgsEq l l' n n' = false by simp [asgsEq, hnn])
    clear hnn
    go_enter Try.func55, Try.ntmps55
    go_wp2
    go_ret
    exact ⟨ret_bool HF.out.symm, (by repeat (first | exact Below.refl _ _ | refine Below.drew ?_ | refine Below.alloc ?_ (by first | exact Nat.le_refl _ | (simp; done) | (simp; omega) | omega) _ | refine Below.more ?_ (by first | exact Nat.le_refl _ | (simp; done) | (simp; omega) | omega) _ _ | refine Below.setCell ?_ (by first | exact Nat.le_refl _ | (simp; done) | (simp; omega) | omega) _ | assumption))⟩
set_option maxRecDepth 100000 in
theorem sameNode_c (x y : NodeD) (a b : Option Addr) (c d : Nat) (w : World) (hr : Sl w a 1 x.f3.length (intAt x.f3)) (hr' : Sl w b 1 y.f3.length (intAt y.f3)) (hn : x.f3.length ≤ 1048576) (hn' : y.f3.length ≤ 1048576) :
    Calls Try.prog 54 #[.agg ⟨x.cells a c⟩, .agg ⟨y.cells b d⟩] w fun e w' => e = .returned (.bool (nodeEq x y)) ∧ Below w.heap.size w w' := by
  obtain ⟨x0, x1, x2, x3⟩ := x
  obtain ⟨y0, y1, y2, y3⟩ := y
  dsimp only at hr hr' hn hn'
  have H1 := Lib.hid hr
  have H2 := Lib.hid hr'
  clear hr hr'
  cases h0 : (x0 == y0)
  · have HF := Lib.hid (show nodeEq ⟨x0, x1, x2, x3⟩ ⟨y0, y1, y2, y3⟩ = false by simp [nodeEq, h0])
    go_enter Try.func54, Try.ntmps54
    go_wp2
    go_ret
    exact ⟨ret_bool HF.out.symm, (by repeat (first | exact Below.refl _ _ | refine Below.drew ?_ | refine Below.alloc ?_ (by first | exact Nat.le_refl _ | (simp; done) | (simp; omega) | omega) _ | refine Below.more ?_ (by first | exact Nat.le_refl _ | (simp; done) | (simp; omega) | omega) _ _ | refine Below.setCell ?_ (by first | exact Nat.le_refl _ | (simp; done) | (simp; omega) | omega) _ | assumption))⟩
  cases h1 : (x1.toList == y1.toList)
  · have HF := Lib.hid (show nodeEq ⟨x0, x1, x2, x3⟩ ⟨y0, y1, y2, y3⟩ = false by simp [nodeEq, h0, h1])
    go_enter Try.func54, Try.ntmps54
    go_wp2
    go_ret
    exact ⟨ret_bool HF.out.symm, (by repeat (first | exact Below.refl _ _ | refine Below.drew ?_ | refine Below.alloc ?_ (by first | exact Nat.le_refl _ | (simp; done) | (simp; omega) | omega) _ | refine Below.more ?_ (by first | exact Nat.le_refl _ | (simp; done) | (simp; omega) | omega) _ _ | refine Below.setCell ?_ (by first | exact Nat.le_refl _ | (simp; done) | (simp; omega) | omega) _ | assumption))⟩
  cases h2 : (x2 == y2)
  · have HF := Lib.hid (show nodeEq ⟨x0, x1, x2, x3⟩ ⟨y0, y1, y2, y3⟩ = false by simp [nodeEq, h0, h1, h2])
    go_enter Try.func54, Try.ntmps54
    go_wp2
    go_ret
    exact ⟨ret_bool HF.out.symm, (by repeat (first | exact Below.refl _ _ | refine Below.drew ?_ | refine Below.alloc ?_ (by first | exact Nat.le_refl _ | (simp; done) | (simp; omega) | omega) _ | refine Below.more ?_ (by first | exact Nat.le_refl _ | (simp; done) | (simp; omega) | omega) _ _ | refine Below.setCell ?_ (by first | exact Nat.le_refl _ | (simp; done) | (simp; omega) | omega) _ | assumption))⟩
  have HF := Lib.hid (show nodeEq ⟨x0, x1, x2, x3⟩ ⟨y0, y1, y2, y3⟩ = intsEq x3 y3 x3.length y3.length by simp only [nodeEq, h0, h1, h2, Bool.true_and])
  go_enter Try.func54, Try.ntmps54
  go_wp2_with (go_at_call 86; refine (equal_ints _ _ _ _ x3 y3 _ _ _ (H1.out.below (by repeat (first | exact Below.refl _ _ | refine Below.drew ?_ | refine Below.alloc ?_ (by first | exact Nat.le_refl _ | (simp; done) | (simp; omega) | omega) _ | refine Below.more ?_ (by first | exact Nat.le_refl _ | (simp; done) | (simp; omega) | omega) _ _ | refine Below.setCell ?_ (by first | exact Nat.le_refl _ | (simp; done) | (simp; omega) | omega) _ | assumption))) (H2.out.below (by repeat (first | exact Below.refl _ _ | refine Below.drew ?_ | refine Below.alloc ?_ (by first | exact Nat.le_refl _ | (simp; done) | (simp; omega) | omega) _ | refine Below.more ?_ (by first | exact Nat.le_refl _ | (simp; done) | (simp; omega) | omega) _ _ | refine Below.setCell ?_ (by first | exact Nat.le_refl _ | (simp; done) | (simp; omega) | omega) _ | assumption))) hn hn').mono ?_; rintro e wn ⟨rfl, hbn⟩; obtain ⟨X, nX, rfl⟩ := Below.ext hbn; clear hbn)
  go_ret
  exact ⟨ret_bool HF.out.symm, (by repeat (first | exact Below.refl _ _ | refine Below.drew ?_ | refine Below.alloc ?_ (by first | exact Nat.le_refl _ | (simp; done) | (simp; omega) | omega) _ | refine Below.more ?_ (by first | exact Nat.le_refl _ | (simp; done) | (simp; omega) | omega) _ _ | refine Below.setCell ?_ (by first | exact Nat.le_refl _ | (simp; done) | (simp; omega) | omega) _ | assumption))⟩

set_option maxRecDepth 100000 in
set_option maxHeartbeats 1000000 in
theorem equal_nodes (a a' : Option Addr) (cap cap' : Nat) (l l' : List NodeD) (n n' : Nat) (w : World) (hr : NsR w a n l) (hr' : NsR w a' n' l') (hn : n ≤ 1048576) (hn' : n' ≤ 1048576) (hs : ∀ i, i < n → (NodeD.args l i).length ≤ 1048576) (hs' : ∀ i, i < n' → (NodeD.args l' i).length ≤ 1048576) :
    Calls Try.prog 53 #[.slice a n cap, .slice a' n' cap', .func (.func 54) #[] #[]] w fun e w' => e = .returned (.bool (nodesEq l l' n n')) ∧ Below w.heap.size w w' := by
  obtain ⟨A, K, hr, hq⟩ := hr
  obtain ⟨A', K', hr', hq'⟩ := hr'
  have HR := Lib.hid hr
  have HR' := Lib.hid hr'
  have HQ := Lib.hid hq
  have HQ' := Lib.hid hq'
  have HS := Lib.hid hs
  have HS' := Lib.hid hs'
  clear hr hr' hq hq' hs hs'
  by_cases hnn : n = n'
  · subst hnn
    have hb0 : ((n : Int) != (n : Int)) = false := by simp
    go_enter Try.func53, Try.ntmps53
    go_wp2
    go_loopw [17] (fun i wr => ∃ (k d : Nat) (X0 : Array Obj), k ≤ n ∧ i = .int .i64 k ∧ (∀ i, i < k → nodeEq (l.getD i default) (l'.getD i default) = true) ∧ wr = more w X0 d) (fun i _ => n - (intOf i).toNat)
    case atStart => exact ⟨0, _, #[], by omega, rfl, fun i hi => by omega, more_self' w⟩
    case round =>
      obtain ⟨k, d, X0, hk, rfl, hall, rfl⟩ := hrel
      have HALL := Lib.hid hall
      clear hall
      by_cases hlt : k < n
      · have hk1 : (k : Int) < (n : Int) := by omega
        have hk0 : (0 : Int) ≤ (k : Int) := by omega
        obtain ⟨b, o, rfl, hb, hc⟩ := HR.out (by omega)
        have c0 : w.cell? ⟨b, o + k * 4, none⟩ = some (.int .i64 (l.getD k default).f0) := hc k hlt 0 (by omega)
        have c1 : w.cell? ⟨b, o + k * 4 + 1, none⟩ = some (.string (l.getD k default).f1) := hc k hlt 1 (by omega)
        have c2 : w.cell? ⟨b, o + k * 4 + 2, none⟩ = some (.int .i64 (l.getD k default).f2) := hc k hlt 2 (by omega)
        have c3 : w.cell? ⟨b, o + k * 4 + 3, none⟩ = some (.slice (A k) (l.getD k default).f3.length (K k)) := hc k hlt 3 (by omega)
        obtain ⟨b', o', rfl, hb', hc'⟩ := HR'.out (by omega)
        have e0 : w.cell? ⟨b', o' + k * 4, none⟩ = some (.int .i64 (l'.getD k default).f0) := hc' k hlt 0 (by omega)
        have e1 : w.cell? ⟨b', o' + k * 4 + 1, none⟩ = some (.string (l'.getD k default).f1) := hc' k hlt 1 (by omega)
        have e2 : w.cell? ⟨b', o' + k * 4 + 2, none⟩ = some (.int .i64 (l'.getD k default).f2) := hc' k hlt 2 (by omega)
        have e3 : w.cell? ⟨b', o' + k * 4 + 3, none⟩ = some (.slice (A' k) (l'.getD k default).f3.length (K' k)) := hc' k hlt 3 (by omega)
        clear hc hc'
        have hb1 : b' < w.heap.size + X0.size := by omega
        have hb2 : b' < w.heap.size + X0.size + 1 := by omega
        have hsl : Sl w (A k) 1 (l.getD k default).f3.length (intAt (l.getD k default).f3) := HQ.out k hlt
        have hsl' : Sl w (A' k) 1 (l'.getD k default).f3.length (intAt (l'.getD k default).f3) := HQ'.out k hlt
        have hsn : (l.getD k default).f3.length ≤ 1048576 := HS.out k hlt
        have hsn' : (l'.getD k default).f3.length ≤ 1048576 := HS'.out k hlt
        have HS1 := Lib.hid (show nodeEq (l.getD k default) (l'.getD k default) = true → ∀ i, i < k + 1 → nodeEq (l.getD i default) (l'.getD i default) = true from fun q i hi => by
          by_cases hik : i = k
          · subst hik; exact q
          · exact HALL.out i (by omega))
        have HS2 := Lib.hid (show nodeEq (l.getD k default) (l'.getD k default) = false → nodesEq l l' n n = false from fun q => by
          simp only [nodesEq, Bool.and_eq_false_iff, decide_eq_false_iff_not]
          exact .inr fun h => by rw [h k hlt] at q; cases q)
        generalize l.getD k default = x at *
        generalize l'.getD k default = y at *
        generalize A k = ak at *
        generalize K k = kk at *
        generalize A' k = ak' at *
        generalize K' k = kk' at *
        have HSL := Lib.hid hsl
        have HSL' := Lib.hid hsl'
        clear hsl hsl'
        cases hq : nodeEq x y
        all_goals
          go_wp2_with (go_at_call 54; refine (sameNode_c x y ak ak' kk kk' _ (HSL.out.below (by repeat (first | exact Below.refl _ _ | refine Below.drew ?_ | refine Below.alloc ?_ (by first | exact Nat.le_refl _ | (simp; done) | (simp; omega) | omega) _ | refine Below.more ?_ (by first | exact Nat.le_refl _ | (simp; done) | (simp; omega) | omega) _ _ | refine Below.setCell ?_ (by first | exact Nat.le_refl _ | (simp; done) | (simp; omega) | omega) _ | assumption))) (HSL'.out.below (by repeat (first | exact Below.refl _ _ | refine Below.drew ?_ | refine Below.alloc ?_ (by first | exact Nat.le_refl _ | (simp; done) | (simp; omega) | omega) _ | refine Below.more ?_ (by first | exact Nat.le_refl _ | (simp; done) | (simp; omega) | omega) _ _ | refine Below.setCell ?_ (by first | exact Nat.le_refl _ | (simp; done) | (simp; omega) | omega) _ | assumption))) hsn hsn').mono ?_; rintro e wn ⟨rfl, hbn⟩; obtain ⟨X, nX, rfl⟩ := Below.ext hbn; clear hbn)
        · go_ret
          exact ⟨ret_bool (HS2.out hq).symm, (by repeat (first | exact Below.refl _ _ | refine Below.drew ?_ | refine Below.alloc ?_ (by first | exact Nat.le_refl _ | (simp; done) | (simp; omega) | omega) _ | refine Below.more ?_ (by first | exact Nat.le_refl _ | (simp; done) | (simp; omega) | omega) _ _ | refine Below.setCell ?_ (by first | exact Nat.le_refl _ | (simp; done) | (simp; omega) | omega) _ | assumption))⟩
        · obtain ⟨X', d', e⟩ := Below.ext (w := w) (w' := more (((more w X0 d).alloc (.cells ⟨x.cells ak kk⟩ 67)).alloc (.cells ⟨y.cells ak' kk'⟩ 67)) X nX) (by repeat (first | exact Below.refl _ _ | refine Below.drew ?_ | refine Below.alloc ?_ (by first | exact Nat.le_refl _ | (simp; done) | (simp; omega) | omega) _ | refine Below.more ?_ (by first | exact Nat.le_refl _ | (simp; done) | (simp; omega) | omega) _ _ | refine Below.setCell ?_ (by first | exact Nat.le_refl _ | (simp; done) | (simp; omega) | omega) _ | assumption))
          exact ⟨⟨k + 1, d', X', by omega, rfl, HS1.out hq, e⟩, by simp only [intOf]; omega⟩
      · have hk' : k = n := by omega
        have HF := Lib.hid (show nodesEq l l' n n = true by
          simp only [nodesEq, decide_true, Bool.true_and, decide_eq_true_eq]
          intro i hi; exact HALL.out i (by omega))
        have HK := Lib.hid hk'
        clear hk'
        go_wp2
        go_ret
        exact ⟨ret_bool HF.out.symm, (by repeat (first | exact Below.refl _ _ | refine Below.drew ?_ | refine Below.alloc ?_ (by first | exact Nat.le_refl _ | (simp; done) | (simp; omega) | omega) _ | refine Below.more ?_ (by first | exact Nat.le_refl _ | (simp; done) | (simp; omega) | omega) _ _ | refine Below.setCell ?_ (by first | exact Nat.le_refl _ | (simp; done) | (simp; omega) | omega) _ | assumption))⟩
  · have hb0 : ((n : Int) != (n' : Int)) = true := by rw [bne_iff_ne]; omega
    have HF := Lib.hid (show nodesEq l l' n n' = false by simp [nodesEq, hnn])
    clear hnn
    go_enter Try.func53, Try.ntmps53
    go_wp2
    go_ret
    exact ⟨ret_bool HF.out.symm, (by repeat (first | exact Below.refl _ _ | refine Below.drew ?_ | refine Below.alloc ?_ (by first | exact Nat.le_refl _ | (simp; done) | (simp; omega) | omega) _ | refine Below.more ?_ (by first | exact Nat.le_refl _ | (simp; done) | (simp; omega) | omega) _ _ | refine Below.setCell ?_ (by first | exact Nat.le_refl _ | (simp; done) | (simp; omega) | omega) _ | assumption))⟩
set_option maxRecDepth 100000 in
theorem impl_SameProgram_c (v : Value) (p : ProgD) (v' : Value) (q : ProgD) (w : World) (hr : ProgramR w v p) (hr' : ProgramR w v' q) (hs : ProgramSz 1048576 p) (hs' : ProgramSz 1048576 q) :
    Calls Try.prog 28 #[v, v'] w fun e w' => e = .returned (.bool (progEq p q)) ∧ Below w.heap.size w w' := by
  obtain ⟨a, c, a', c', rfl, h1, h2⟩ := hr
  obtain ⟨b, d, b', d', rfl, h1', h2'⟩ := hr'
  obtain ⟨hs1, hs2, hs3, hs4⟩ := hs
  obtain ⟨ht1, ht2, ht3, ht4⟩ := hs'
  have H1 := Lib.hid h1
  have H2 := Lib.hid h2
  have H1' := Lib.hid h1'
  have H2' := Lib.hid h2'
  have H3 := Lib.hid hs3
  have H3' := Lib.hid ht3
  clear h1 h2 h1' h2' hs3 hs4 ht3 ht4
  cases hq : nodesEq p.nodes q.nodes p.nN q.nN
  all_goals
    go_enter Try.func28, Try.ntmps28
    go_wp2_with (first | (go_at_call 53; refine (equal_nodes _ _ _ _ p.nodes q.nodes _ _ _ (H1.out.below (by repeat (first | exact Below.refl _ _ | refine Below.drew ?_ | refine Below.alloc ?_ (by first | exact Nat.le_refl _ | (simp; done) | (simp; omega) | omega) _ | refine Below.more ?_ (by first | exact Nat.le_refl _ | (simp; done) | (simp; omega) | omega) _ _ | refine Below.setCell ?_ (by first | exact Nat.le_refl _ | (simp; done) | (simp; omega) | omega) _ | assumption))) (H1'.out.below (by repeat (first | exact Below.refl _ _ | refine Below.drew ?_ | refine Below.alloc ?_ (by first | exact Nat.le_refl _ | (simp; done) | (simp; omega) | omega) _ | refine Below.more ?_ (by first | exact Nat.le_refl _ | (simp; done) | (simp; omega) | omega) _ _ | refine Below.setCell ?_ (by first | exact Nat.le_refl _ | (simp; done) | (simp; omega) | omega) _ | assumption))) hs1 ht1 (fun i hi => (H3.out i hi).2) (fun i hi => (H3'.out i hi).2)).mono ?_; rintro e wn ⟨rfl, hbn⟩; obtain ⟨X, nX, rfl⟩ := Below.ext hbn; clear hbn) | (go_at_call 55; refine (equal_asgs _ _ _ _ p.asg q.asg _ _ _ (H2.out.below (by repeat (first | exact Below.refl _ _ | refine Below.drew ?_ | refine Below.alloc ?_ (by first | exact Nat.le_refl _ | (simp; done) | (simp; omega) | omega) _ | refine Below.more ?_ (by first | exact Nat.le_refl _ | (simp; done) | (simp; omega) | omega) _ _ | refine Below.setCell ?_ (by first | exact Nat.le_refl _ | (simp; done) | (simp; omega) | omega) _ | assumption))) (H2'.out.below (by repeat (first | exact Below.refl _ _ | refine Below.drew ?_ | refine Below.alloc ?_ (by first | exact Nat.le_refl _ | (simp; done) | (simp; omega) | omega) _ | refine Below.more ?_ (by first | exact Nat.le_refl _ | (simp; done) | (simp; omega) | omega) _ _ | refine Below.setCell ?_ (by first | exact Nat.le_refl _ | (simp; done) | (simp; omega) | omega) _ | assumption))) hs2 ht2).mono ?_; rintro e wn ⟨rfl, hbn⟩; obtain ⟨X, nX, rfl⟩ := Below.ext hbn; clear hbn))
    go_ret
    exact ⟨ret_bool (by simp [progEq, hq]), (by repeat (first | exact Below.refl _ _ | refine Below.drew ?_ | refine Below.alloc ?_ (by first | exact Nat.le_refl _ | (simp; done) | (simp; omega) | omega) _ | refine Below.more ?_ (by first | exact Nat.le_refl _ | (simp; done) | (simp; omega) | omega) _ _ | refine Below.setCell ?_ (by first | exact Nat.le_refl _ | (simp; done) | (simp; omega) | omega) _ | assumption))⟩
end Go.Proofs.Ytgennnoplmhckaa
