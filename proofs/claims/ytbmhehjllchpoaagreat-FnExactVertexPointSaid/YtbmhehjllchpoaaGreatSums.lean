/- Contracts of what adds up a list of vectors. -/
import Derived.Test.YtbmhehjllchpoaaGreatFacePointT
import Derived.Test.YtbmhehjllchpoaaGreatEdgesS
set_option linter.unusedSimpArgs false
set_option linter.unusedVariables false
namespace Go.Proofs.YtbmhehjllchpoaaGreat
open Go Go.RowKit
def sumL (g : VecD → Int) (L : List VecD) (j : Nat) : Int := ((List.range j).map fun i : Nat => g (L.getD i default)).sum
theorem sumL_succ (g : VecD → Int) (L : List VecD) (j : Nat) : sumL g L (j + 1) = sumL g L j + g (L.getD j default) := by
  simp only [sumL, List.range_succ, List.map_append, List.map_cons, List.map_nil, List.sum_append, List.sum_cons, List.sum_nil]
  omega
/-- Each part is at most 2^40. -/
structure VecB (x : VecD) : Prop where
  b0 : -1099511627776 ≤ x.f0 ∧ x.f0 ≤ 1099511627776
  b1 : -1099511627776 ≤ x.f1 ∧ x.f1 ≤ 1099511627776
  b2 : -1099511627776 ≤ x.f2 ∧ x.f2 ≤ 1099511627776
def VecsB (L : List VecD) (n : Nat) : Prop := ∀ i, i < n → VecB (L.getD i default)
theorem sumL_bd {g : VecD → Int} {L : List VecD} : ∀ {j : Nat}, (∀ i, i < j → -1099511627776 ≤ g (L.getD i default) ∧ g (L.getD i default) ≤ 1099511627776) → -(1099511627776 * j) ≤ sumL g L j ∧ sumL g L j ≤ 1099511627776 * j
  | 0, _ => by simp [sumL]
  | j + 1, h => by
    have := sumL_bd (j := j) (fun i hi => h i (by omega))
    have := h j (by omega)
    rw [sumL_succ]
    omega
theorem sumL_in0 {L : List VecD} {n j : Nat} (h : VecsB L n) (hn : n ≤ 1000) (hj : j ≤ n) : -1099511627776000 ≤ sumL (·.f0) L j ∧ sumL (·.f0) L j ≤ 1099511627776000 := by
  have := sumL_bd (g := (·.f0)) (L := L) (j := j) (fun i hi => (h i (by omega)).b0)
  omega
theorem sumL_in1 {L : List VecD} {n j : Nat} (h : VecsB L n) (hn : n ≤ 1000) (hj : j ≤ n) : -1099511627776000 ≤ sumL (·.f1) L j ∧ sumL (·.f1) L j ≤ 1099511627776000 := by
  have := sumL_bd (g := (·.f1)) (L := L) (j := j) (fun i hi => (h i (by omega)).b1)
  omega
theorem sumL_in2 {L : List VecD} {n j : Nat} (h : VecsB L n) (hn : n ≤ 1000) (hj : j ≤ n) : -1099511627776000 ≤ sumL (·.f2) L j ∧ sumL (·.f2) L j ≤ 1099511627776000 := by
  have := sumL_bd (g := (·.f2)) (L := L) (j := j) (fun i hi => (h i (by omega)).b2)
  omega
/-- The mean of a list, by n. -/
def meanL (L : List VecD) (n m : Nat) : Value := vecV (fdivI (sumL (·.f0) L n) m) (fdivI (sumL (·.f1) L n) m) (fdivI (sumL (·.f2) L n) m)
set_option maxRecDepth 100000 in
set_option maxHeartbeats 2000000 in
theorem l07SumL_c (a : Option Addr) (cap : Nat) (L : List VecD) (n : Nat) (w : World) (hf : VecsB L n) (hn : n ≤ 1000) (hr : Sl w a 3 n (VecD.at L)) :
    Calls Tryz.prog 16 #[.slice a n cap] w fun e w' => e = .returned (vecV (sumL (·.f0) L n) (sumL (·.f1) L n) (sumL (·.f2) L n)) ∧ Below w.heap.size w w' := by
  have HR := Lib.hid hr
  have HFV := Lib.hid hf
  clear hr hf
  go_enter Tryz.func16, Tryz.ntmps16
  go_wp2
  go_loopw [9] (fun i wr => ∃ (k : Nat), k ≤ n ∧ i = .int .i64 k ∧ Below w.heap.size w wr ∧ wr.cell? ⟨w.heap.size + 1, 0, none⟩ = some (.int .i64 (sumL (·.f0) L k)) ∧ wr.cell? ⟨w.heap.size + 1, 1, none⟩ = some (.int .i64 (sumL (·.f1) L k)) ∧ wr.cell? ⟨w.heap.size + 1, 2, none⟩ = some (.int .i64 (sumL (·.f2) L k)) ∧ wr.frozen? ⟨w.heap.size + 1, 0, none⟩ = false ∧ wr.frozen? ⟨w.heap.size + 1, 1, none⟩ = false ∧ wr.frozen? ⟨w.heap.size + 1, 2, none⟩ = false ∧ wr.cell? ⟨w.heap.size, 0, none⟩ = some (.int .i64 0) ∧ wr.frozen? ⟨w.heap.size, 0, none⟩ = false ∧ wr.cell? ⟨w.heap.size, 1, none⟩ = some (.int .i64 0) ∧ wr.frozen? ⟨w.heap.size, 1, none⟩ = false ∧ wr.cell? ⟨w.heap.size, 2, none⟩ = some (.int .i64 0) ∧ wr.frozen? ⟨w.heap.size, 2, none⟩ = false) (fun i _ => n - (intOf i).toNat)
  case atStart => exact ⟨0, by omega, rfl, (by repeat (first | exact Below.refl _ _ | refine Below.drew ?_ | refine Below.alloc ?_ (by first | exact Nat.le_refl _ | (simp; done) | (simp; omega) | omega) _ | refine Below.more ?_ (by first | exact Nat.le_refl _ | (simp; done) | (simp; omega) | omega) _ _ | refine Below.setCell ?_ (by first | exact Nat.le_refl _ | (simp; done) | (simp; omega) | omega) _ | assumption)), by simp [go_sem, sumL], by simp [go_sem, sumL], by simp [go_sem, sumL], by simp [go_sem], by simp [go_sem], by simp [go_sem], by simp [go_sem], by simp [go_sem], by simp [go_sem], by simp [go_sem], by simp [go_sem], by simp [go_sem]⟩
  case round =>
    obtain ⟨k, hk, rfl, hbel, s0, s1, s2, z0, z1, z2, r0, x0, r1, x1, r2, x2⟩ := hrel
    have y0' : w.heap.size < wr.heap.size := World.block_lt_of_cell? _ _ r0
    have Y2 : ∀ n, w.heap.size < wr.heap.size + n := fun n => by omega
    have Y3 : ∀ n m, w.heap.size < wr.heap.size + n + m := fun n m => by omega
    have HBEL := Lib.hid hbel
    have y1 : w.heap.size + 1 < wr.heap.size := World.block_lt_of_cell? _ _ s0
    have y2 : ∀ n, w.heap.size + 1 < wr.heap.size + n := fun n => by omega
    have y3 : ∀ n m, w.heap.size + 1 < wr.heap.size + n + m := fun n m => by omega
    clear hbel
    by_cases hlt : k < n
    · have hk1 : (k : Int) < (n : Int) := by omega
      obtain ⟨b, o, e, hb, hc⟩ := HR.out.below HBEL.out (by omega)
      subst e
      have d0 : wr.cell? ⟨b, o + k * 3, none⟩ = some (.int .i64 (L.getD k default).f0) := hc k hlt 0 (by omega)
      have d1 : wr.cell? ⟨b, o + k * 3 + 1, none⟩ = some (.int .i64 (L.getD k default).f1) := hc k hlt 1 (by omega)
      have d2 : wr.cell? ⟨b, o + k * 3 + 2, none⟩ = some (.int .i64 (L.getD k default).f2) := hc k hlt 2 (by omega)
      clear hc
      have e0 := (HFV.out k hlt).b0
      have e1 := (HFV.out k hlt).b1
      have e2 := (HFV.out k hlt).b2
      have t0 := sumL_in0 HFV.out hn (j := k) (by omega)
      have t1 := sumL_in1 HFV.out hn (j := k) (by omega)
      have t2 := sumL_in2 HFV.out hn (j := k) (by omega)
      have U0 := Lib.hid (sumL_succ (·.f0) L k)
      have U1 := Lib.hid (sumL_succ (·.f1) L k)
      have U2 := Lib.hid (sumL_succ (·.f2) L k)
      generalize L.getD k default = xx at *
      obtain ⟨x, y, z⟩ := xx
      dsimp only at d0 d1 d2 e0 e1 e2 U0 U1 U2
      generalize sumL (·.f0) L k = S0 at *
      generalize sumL (·.f1) L k = S1 at *
      generalize sumL (·.f2) L k = S2 at *
      have w0 : IntKind.i64.wrap (S0 + x) = S0 + x := IntWalk.i64_in _ (by omega)
      have w1 : IntKind.i64.wrap (S1 + y) = S1 + y := IntWalk.i64_in _ (by omega)
      have w2 : IntKind.i64.wrap (S2 + z) = S2 + z := IntWalk.i64_in _ (by omega)
      go_wp2
      refine ⟨⟨k + 1, by omega, rfl, Below.trans HBEL.out (by repeat (first | exact Below.refl _ _ | refine Below.drew ?_ | refine Below.alloc ?_ (by first | exact Nat.le_refl _ | (simp; done) | (simp; omega) | omega) _ | refine Below.more ?_ (by first | exact Nat.le_refl _ | (simp; done) | (simp; omega) | omega) _ _ | refine Below.setCell ?_ (by first | exact Nat.le_refl _ | (simp; done) | (simp; omega) | omega) _ | assumption)), ?_, ?_, ?_, ?_, ?_, ?_, ?_, ?_, ?_, ?_, ?_, ?_⟩, by simp only [intOf]; omega⟩
      · rw [U0.out]; simp [go_sem, y1, y2, y3, s0, s1, s2]
      · rw [U1.out]; simp [go_sem, y1, y2, y3, s0, s1, s2]
      · rw [U2.out]; simp [go_sem, y1, y2, y3, s0, s1, s2]
      · simp [go_sem, y1, y2, y3, z0]
      · simp [go_sem, y1, y2, y3, z1]
      · simp [go_sem, y1, y2, y3, z2]
      · simp [go_sem, y0', Y2, Y3, r0]
      · simp [go_sem, y0', Y2, Y3, x0]
      · simp [go_sem, y0', Y2, Y3, r1]
      · simp [go_sem, y0', Y2, Y3, x1]
      · simp [go_sem, y0', Y2, Y3, r2]
      · simp [go_sem, y0', Y2, Y3, x2]
    · have hk1 : ¬ (k : Int) < (n : Int) := by omega
      have hkn : k = n := by omega
      subst hkn
      go_wp2
      exact bodyPost_ret (v := vecV (sumL (·.f0) L k) (sumL (·.f1) L k) (sumL (·.f2) L k)) (by simp [results, Tryz.results16, go_sem, y0', r0, r1, r2, x0, x1, x2]) rfl ⟨rfl, Below.trans HBEL.out (by repeat (first | exact Below.refl _ _ | refine Below.drew ?_ | refine Below.alloc ?_ (by first | exact Nat.le_refl _ | (simp; done) | (simp; omega) | omega) _ | refine Below.more ?_ (by first | exact Nat.le_refl _ | (simp; done) | (simp; omega) | omega) _ _ | refine Below.setCell ?_ (by first | exact Nat.le_refl _ | (simp; done) | (simp; omega) | omega) _ | assumption))⟩
end Go.Proofs.YtbmhehjllchpoaaGreat
