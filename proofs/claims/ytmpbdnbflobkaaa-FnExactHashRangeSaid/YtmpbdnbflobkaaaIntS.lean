/- Contracts of what the laws do with slices of integers. -/
import Derived.Test.YtmpbdnbflobkaaaRow
namespace Go.Proofs.Ytmpbdnbflobkaaa
open Go.RowKit
theorem info_int : (Try.prog.info? 3).map (fun i => (i.zero, i.size, i.bytes)) = some (some (.int .i64 0), 1, 8) := by kernel_rfl
set_option maxRecDepth 100000 in
theorem make_ints (n : Nat) (hn : n ≤ 1048576) (w : World) : (Instr.makeSlice 32 (.int .i64 (n : Int)) (.int .i64 (n : Int))).run Try.prog w = .ok (.slice (some ⟨w.heap.size, 0, none⟩) n n) (w.alloc (.cells ⟨List.replicate n (.int .i64 0)⟩ 3)) := by
  obtain ⟨i0, hi, hz0, hz1, hz2⟩ := info_parts info_int
  have h := run_make w 32 3 i0 (.int .i64 0) Try.underlying32 hi hz0 .i64 .i64 (n : Int) (n : Int) (by omega) (by omega) (by rw [hz2]; omega) (by omega)
  rw [h]
  simp only [Int.toNat_natCast, hz1, Nat.mul_one, Value.cells]
  congr 3
  rw [← toList_madeCells_one]
/-- The first k numbers are laid. -/
def Laid (arr : List Value) (ns : List Int) (k : Nat) : Prop := arr.length = ns.length ∧ ∀ j, j < k → arr[j]? = some (.int .i64 (ns.getD j 0))
theorem Laid.set {arr : List Value} {ns : List Int} {k : Nat} (h : Laid arr ns k) (hk : k < ns.length) : Laid (arr.set k (.int .i64 (ns.getD k 0))) ns (k + 1) := by
  refine ⟨by simpa using h.1, fun j hj => ?_⟩
  rw [List.getElem?_set]
  split
  · subst_vars; rw [if_pos (by rw [h.1]; exact hk)]
  · exact h.2 j (by omega)
theorem Laid.all {arr : List Value} {ns : List Int} (h : Laid arr ns ns.length) : arr = ns.map (.int .i64) := by
  apply List.ext_getElem?
  intro j
  by_cases hj : j < ns.length
  · rw [h.2 j hj, cell_map hj]
  · rw [List.getElem?_eq_none (by rw [h.1]; omega), List.getElem?_eq_none (by simpa using hj)]
set_option maxRecDepth 100000 in
theorem toIntS_core (v : Value) (ns : List Int) (n : Nat) (HN : Hid (ns.length = n)) (w : World) (hr : Row w v 1 n (ns.map (.int .i64))) (hn : n ≤ 1048576) :
    Calls Try.prog 12 #[v] w fun e w' => e = .returned (.slice (some ⟨w.heap.size, 0, none⟩) n n) ∧ w' = w.alloc (.cells ⟨ns.map (.int .i64)⟩ 3) := by
  have hmk := make_ints n hn
  rcases hr.2 with ⟨rfl, a, cap, rfl⟩ | ⟨b, o, cap, rfl, h0, hb, hc⟩
  · obtain rfl : ns = [] := List.length_eq_zero_iff.1 HN.out
    clear hr HN hmk
    have hmk : ∀ w : World, (Instr.makeSlice 32 (.int .i64 0) (.int .i64 0)).run Try.prog w = .ok (.slice (some ⟨w.heap.size, 0, none⟩) 0 0) (w.alloc (.cells #[] 3)) := fun w => make_ints 0 (by omega) w
    go_enter Try.func12, Try.ntmps12
    go_wp2
    go_rounds 1
    go_ret
    exact ⟨rfl, rfl⟩
  · clear hr
    have hc' : ∀ j, j < n → w.cell? ⟨b, o + j, none⟩ = some (.int .i64 (ns.getD j 0)) := fun j hj => by rw [hc j (by omega), cell_map (by rw [HN.out]; exact hj)]
    have HC := Lib.hid hc'
    clear hc hc'
    go_enter Try.func12, Try.ntmps12
    go_wp2
    go_loopw [4] (fun i wr => ∃ (k : Nat) (arr : List Value), k ≤ n ∧ i = .int .i64 k ∧ Laid arr ns k ∧ wr = w.alloc (.cells ⟨arr⟩ 3)) (fun i _ => n - (intOf i).toNat)
    case atStart => exact ⟨0, _, by omega, rfl, ⟨by simp [HN.out], fun j hj => by omega⟩, rfl⟩
    case round =>
      obtain ⟨k, arr, hk, rfl, hl, rfl⟩ := hrel
      have HL := Lib.hid hl
      clear hl
      by_cases hlt : k < n
      · have hck := HC.out k hlt
        have hal : k < arr.length := by rw [HL.out.1, HN.out]; exact hlt
        go_wp2
        go_roundw
        case rel => exact ⟨k + 1, arr.set k (.int .i64 (ns.getD k 0)), by omega, by go_num, HL.out.set (by rw [HN.out]; exact hlt), by simp⟩
        case measure => simp [intOf]; omega
      · have hk' : k = n := by omega
        have HK := Lib.hid hk'
        clear hk'
        go_wp2
        go_ret
        refine ⟨rfl, ?_⟩
        have e := HL.out
        rw [HK.out, ← HN.out] at e
        rw [e.all]
theorem toIntS_c (v : Value) (ns : List Int) (w : World) (hr : Row w v 1 ns.length (ns.map (.int .i64))) (hn : ns.length ≤ 1048576) :
    Calls Try.prog 12 #[v] w fun e w' => e = .returned (.slice (some ⟨w.heap.size, 0, none⟩) ns.length ns.length) ∧ w' = w.alloc (.cells ⟨ns.map (.int .i64)⟩ 3) :=
  toIntS_core v ns _ (Lib.hid rfl) w hr hn
/-- Two slices of the same numbers are equal. -/
theorem eqIntS_core (v v' : Value) (ns : List Int) (n : Nat) (HN : Hid (ns.length = n)) (w : World) (hr : Row w v 1 n (ns.map (.int .i64))) (hr' : Row w v' 1 n (ns.map (.int .i64))) (hn : n ≤ 1048576) :
    Calls Try.prog 14 #[v, v'] w fun e w' => e = .returned (.bool true) ∧ Below w.heap.size w w' := by
  rcases hr.2 with ⟨rfl, a, cap, rfl⟩ | ⟨b, o, cap, rfl, h0, hb, hc⟩
  · rcases hr'.2 with ⟨_, a', cap', rfl⟩ | ⟨_, _, _, _, h0, _⟩
    · clear hr hr'
      go_enter Try.func14, Try.ntmps14
      go_wp2
      go_rounds 1
      go_ret
      exact ⟨rfl, (by repeat (first | exact Below.refl _ _ | refine Below.drew ?_ | refine Below.alloc ?_ (by first | exact Nat.le_refl _ | (simp; done) | (simp; omega) | omega) _ | refine Below.more ?_ (by first | exact Nat.le_refl _ | (simp; done) | (simp; omega) | omega) _ _ | refine Below.setCell ?_ (by first | exact Nat.le_refl _ | (simp; done) | (simp; omega) | omega) _ | assumption))⟩
    · omega
  · rcases hr'.2 with ⟨h0', _⟩ | ⟨b', o', cap', rfl, _, hb', hc'⟩
    · omega
    clear hr hr'
    have hc1 : ∀ j, j < n → w.cell? ⟨b, o + j, none⟩ = some (.int .i64 (ns.getD j 0)) := fun j hj => by rw [hc j (by omega), cell_map (by rw [HN.out]; exact hj)]
    have hc2 : ∀ j, j < n → w.cell? ⟨b', o' + j, none⟩ = some (.int .i64 (ns.getD j 0)) := fun j hj => by rw [hc' j (by omega), cell_map (by rw [HN.out]; exact hj)]
    have H1 := Lib.hid hc1
    have H2 := Lib.hid hc2
    clear hc hc' hc1 hc2
    go_enter Try.func14, Try.ntmps14
    go_wp2
    go_loopw [5] (fun i wr => ∃ (k d : Nat) (X : Array Obj), k ≤ n ∧ i = .int .i64 k ∧ wr = more w X d) (fun i _ => n - (intOf i).toNat)
    case atStart => exact ⟨0, _, #[], by omega, rfl, (more_none w _).symm⟩
    case round =>
      obtain ⟨k, d, X0, hk, rfl, rfl⟩ := hrel
      by_cases hlt : k < n
      · have h1 := H1.out k hlt
        have h2 := H2.out k hlt
        have hk1 : (k : Int) < (n : Int) := by omega
        have hk0 : (0 : Int) ≤ (k : Int) := by omega
        go_wp2
        (first | refine region_q2 (by kernel_rfl) (by kernel_rfl) ?_ | refine region_q (by kernel_rfl) (by kernel_rfl) ?_)
        repeat (quiet_step (fail))
        (refine wpQuiet_nil ?_; intro X nX)
        go_wp2
        go_roundw
        case rel => exact ⟨k + 1, _, _, by omega, by go_num, rfl⟩
        case measure => simp [intOf]; omega
      · go_wp2
        go_ret
        exact ⟨rfl, (by repeat (first | exact Below.refl _ _ | refine Below.drew ?_ | refine Below.alloc ?_ (by first | exact Nat.le_refl _ | (simp; done) | (simp; omega) | omega) _ | refine Below.more ?_ (by first | exact Nat.le_refl _ | (simp; done) | (simp; omega) | omega) _ _ | refine Below.setCell ?_ (by first | exact Nat.le_refl _ | (simp; done) | (simp; omega) | omega) _ | assumption))⟩
theorem eqIntS_c (v v' : Value) (ns : List Int) (w : World) (hr : Row w v 1 ns.length (ns.map (.int .i64))) (hr' : Row w v' 1 ns.length (ns.map (.int .i64))) (hn : ns.length ≤ 1048576) :
    Calls Try.prog 14 #[v, v'] w fun e w' => e = .returned (.bool true) ∧ Below w.heap.size w w' :=
  eqIntS_core v v' ns _ (Lib.hid rfl) w hr hr' hn
end Go.Proofs.Ytmpbdnbflobkaaa
