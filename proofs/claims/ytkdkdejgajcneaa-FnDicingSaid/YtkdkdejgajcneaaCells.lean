/- The iterator over the cells of a grid of m columns and m rows. -/
import Derived.RangeFuncBox
import Derived.RangeFuncLeaves
import Derived.Shelf.Abstract
import Derived.Shelf.RegionOpen
import Derived.WalkKit
import Derived.OwnWalkIn
import Derived.TacticsInMore
import Derived.LoopNIn
import Derived.LoopIn
import Derived.Test.YtkdkdejgajcneaaRound
import Derived.Test.YtkdkdejgajcneaaSl
namespace Go.Proofs.Ytkdkdejgajcneaa
open Go Go.RowKit Go.Shelf
attribute [local go_sem] Oper.semAt_some
set_option linter.unusedVariables false
/-- Column and row of a cell. -/
def cellsE (m : Nat) (x : Fin (m * m)) : Array Value := #[.int .i64 ((x.1 : Int) % (m : Int)), .int .i64 ((x.1 : Int) / (m : Int))]
/-- What the cell of the box holds stays. -/
def KeepB (b : Nat) (W W' : World) : Prop := ∀ v, W.cell? ⟨b, 0, none⟩ = some v → W'.cell? ⟨b, 0, none⟩ = some v
theorem KeepB.t {b : Nat} {A B C : World} (h : KeepB b A B) (k : KeepB b B C) : KeepB b A C := fun v hv => k v (h v hv)
theorem KeepB.b {b : Nat} {w : World} (hb : b < w.heap.size) (W : World) (l : Nat) (o o' : Obj) (hl : w.heap.size ≤ l) (_ : W.heap[l]? = some o) (_ : o.isCells = false) (_ : o.isWalk = false) : KeepB b W (W.putObj l o') :=
  fun v hv => (World.cell?_of_block (World.putObj_heap_other (by dsimp only; omega))).trans hv
theorem KeepB.below {b : Nat} {W W' : World} (h : Below W.heap.size W W') : KeepB b W W' := fun v hv => cell_below h hv
def upTo (N k : Nat) : List (Fin N) := (List.finRange N).take k
theorem upTo_succ {N k : Nat} (h : k < N) : upTo N k ++ [⟨k, h⟩] = upTo N (k + 1) := by
  unfold upTo
  rw [List.take_add_one, List.getElem?_eq_getElem (by simpa using h)]
  simp
theorem upTo_all {N : Nat} : upTo N N = List.finRange N := by
  unfold upTo; rw [List.take_of_length_le (by simp)]
theorem upTo_len {N k : Nat} (h : k ≤ N) : (upTo N k).length = k := by unfold upTo; simp; omega
theorem div_nat (k m : Nat) (hk : k ≤ 64) : IntKind.i64.wrap ((k : Int) / (m : Int)) = (k : Int) / (m : Int) := by
  have h : (k : Int) / (m : Int) = ((k / m : Nat) : Int) := by simp
  have : k / m ≤ k := Nat.div_le_self _ _
  rw [h]
  generalize k / m = q at *
  exact IntWalk.i64_in _ (by omega)
set_option maxRecDepth 100000 in
set_option maxHeartbeats 2000000 in
theorem cells1_in (n : Nat) (hn : 1 ≤ n) (l Bn m : Nat) (h1 : 1 ≤ m) (hm : m ≤ 8) (J Jx : List (Fin (m * m)) → World → Prop)
    (hY : ∀ pre x W, J pre W → pre.length < m * m → YieldAt Fence.wide (n - 1) Try.prog l (cellsE m x) W fun e W' =>
      (e = .returned (.bool true) ∧ J (pre ++ [x]) W' ∧ KeepB Bn W W') ∨ (e = .returned (.bool false) ∧ Jx (pre ++ [x]) W'))
    (hD : ∀ pre w, J pre w → J pre w.drew) (W : World) (hB : W.cell? ⟨Bn, 0, none⟩ = some (.int .i64 (m : Int))) (h0 : J [] W) :
    CallsIn Fence.wide n Try.prog 98 #[.func (.yield l) #[] #[], .pointer (some ⟨Bn, 0, none⟩)] W fun e W' => (∃ v, e = .returned v) ∧
      ((∃ ys, ys = List.finRange (m * m) ∧ J ys W') ∨ (∃ pre, True ∧ Jx pre W')) := by
  have hmm : m * m ≤ 64 := Nat.mul_le_mul hm hm
  have hw : IntKind.i64.wrap ((m : Int) * (m : Int)) = (m : Int) * (m : Int) := IntWalk.i64_in _ (by have : ((m * m : Nat) : Int) = (m : Int) * (m : Int) := by simp
                                                                                                     omega)
  have hm0 : ¬ (m : Int) = 0 := by omega
  refine callsIn_of_wp Try.func98 rfl trivial ?_ rfl
  simp only [Try.ntmps98, List.size_toArray, List.length_cons, List.length_nil, Nat.reduceAdd, Nat.reduceSub, Array.replicate_succ, Array.replicate_zero, List.push_toArray, List.append_toArray, List.nil_append, List.cons_append]
  gi_wp2
  gi_loopw [3] (fun i wr => ∃ k : Nat, k ≤ m * m ∧ i = .int .i64 (k : Int) ∧ J (upTo (m * m) k) wr ∧ wr.cell? ⟨Bn, 0, none⟩ = some (.int .i64 (m : Int))) (fun i _ => m * m - (intOf i).toNat)
  case atStart => exact ⟨0, by omega, rfl, h0, hB⟩
  case round =>
    obtain ⟨k, hk, rfl, hJ, hc⟩ := hrel
    by_cases hlt : k < m * m
    · have hk1 : (k : Int) < (m : Int) * (m : Int) := by have : ((m * m : Nat) : Int) = (m : Int) * (m : Int) := by simp
                                                         omega
      have e2 := div_nat k m (by omega)
      have e1 : (k : Int).tmod (m : Int) = (k : Int) % (m : Int) := Int.tmod_eq_emod_of_nonneg (by omega)
      obtain ⟨fn, tmps, assign, body, hy, hR⟩ := hY (upTo (m * m) k) ⟨k, hlt⟩ wr.drew (hD _ _ hJ) (by rw [upTo_len hk]; exact hlt)
      rw [upTo_succ hlt] at hR
      dsimp only [cellsE] at hy
      gi_wp2
      have hR2 := hR.mono (R' := fun e W' => ∃ b, e = .returned (.bool b) ∧ ((b = true ∧ J (upTo (m * m) (k + 1)) W' ∧ KeepB Bn wr.drew W') ∨ (b = false ∧ Jx (upTo (m * m) (k + 1)) W'))) (by
        rintro e W' (⟨rfl, h2, h3⟩ | ⟨rfl, h2⟩)
        · exact ⟨true, rfl, .inl ⟨rfl, h2, h3⟩⟩
        · exact ⟨false, rfl, .inr ⟨rfl, h2⟩⟩)
      clear hR
      have hmx : Try.prog.follows .mixedOrders = true := by kernel_rfl
      gi_region_with_o (refine hR2.mono ?_; rintro e W' ⟨b, rfl, hb⟩)
      all_goals
        rcases hb with ⟨rfl, hJ', hk'⟩ | ⟨rfl, hx⟩
        · have hc' := hk' _ hc
          gi_wp2
          go_roundw
          case rel => exact ⟨k + 1, by omega, by go_num, hJ', hc'⟩
          case measure => simp [intOf]; omega
        · gi_wp2
          refine bodyPost_ret (results_none rfl _ _ _) rfl ?_
          exact ⟨⟨_, rfl⟩, .inr ⟨_, trivial, hx⟩⟩
    · have hk1 : ¬ (k : Int) < (m : Int) * (m : Int) := by have : ((m * m : Nat) : Int) = (m : Int) * (m : Int) := by simp
                                                           omega
      obtain rfl : k = m * m := by omega
      gi_wp2
      go_end0
      rw [upTo_all] at hJ
      first | exact ⟨⟨_, rfl⟩, .inl ⟨_, rfl, hJ⟩⟩ | exact ⟨⟨_, rfl⟩, .inl hJ⟩ | exact hJ
theorem cells_stops (n : Nat) (hn : 1 ≤ n) (Bn m : Nat) (h1 : 1 ≤ m) (hm : m ≤ 8) (w : World) (hB : w.cell? ⟨Bn, 0, none⟩ = some (.int .i64 (m : Int))) :
    SeqStopsK Fence.wide n Try.prog 98 #[.pointer (some ⟨Bn, 0, none⟩)] (cellsE m) (KeepB Bn) (fun ys => ys = List.finRange (m * m)) (fun _ => True) (m * m) w :=
  fun l J Jx W hW hJ _ hY h0 => cells1_in n hn l Bn m h1 hm J Jx hY (fun pre w' h => hJ pre w' w'.drew none h ⟨rfl, rfl, rfl, Nat.le_refl _, fun _ _ _ => rfl⟩ (fun r e => by cases e)) W (cell_below hW hB) h0
theorem cells_c (m : Int) (w : World) : Calls Try.prog 61 #[.int .i64 m] w fun e w' => e = .returned (.func (.func 98) #[] #[.pointer (some ⟨w.heap.size, 0, none⟩)]) ∧ w' = w.alloc (.cells #[.int .i64 m] 3) := by
  go_enter Try.func61, Try.ntmps61
  go_wp2
  go_ret
  exact ⟨rfl, rfl⟩
end Go.Proofs.Ytkdkdejgajcneaa
