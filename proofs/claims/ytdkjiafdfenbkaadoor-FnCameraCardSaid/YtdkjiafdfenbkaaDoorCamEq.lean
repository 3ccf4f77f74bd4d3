/- Equality of cameras; a camera is read again; on the focal plane the lens does not count. -/
import Derived.Test.YtdkjiafdfenbkaaDoorCamM
import Derived.Test.YtdkjiafdfenbkaaDoorParseCam
import Derived.Test.YtdkjiafdfenbkaaDoorProject
namespace Go.Proofs.YtdkjiafdfenbkaaDoor
open Go Go.RowKit
set_option linter.unusedVariables false
def camEq (W H Z N : Int) (D : Bool) (L F W' H' Z' N' : Int) (D' : Bool) (L' F' : Int) : Bool := W == W' && (H == H' && (Z == Z' && (N == N' && (D == D' && (L == L' && (F == F' && true))))))
theorem camEq_self (W H Z N : Int) (D : Bool) (L F : Int) : camEq W H Z N D L F W H Z N D L F = true := by simp [camEq]
set_option maxRecDepth 100000 in
theorem equal_cam {d : Nat} (W H Z N : Int) (D : Bool) (L F W' H' Z' N' : Int) (D' : Bool) (L' F' : Int) (w : World) : (Op.equalIn (d + 2) 31 (.agg #[.int .i64 W, .int .i64 H, .int .i64 Z, .int .i64 N, .bool D, .int .i64 L, .int .i64 F]) (.agg #[.int .i64 W', .int .i64 H', .int .i64 Z', .int .i64 N', .bool D', .int .i64 L', .int .i64 F'])).run Tryd.prog w = .ok (camEq W H Z N D L F W' H' Z' N' D' L' F') w := by
  rw [run_equalIn_struct _ _ _ _ _ (by simp [Program.fieldsOf, Tryd.underlying31]) (by kernel_rfl)]
  simp only [Program.fieldsOf, Tryd.underlying31]
  have hag : (isAgg 3).run Tryd.prog w = .ok false w := by kernel_rfl
  have hab : (isAgg 4).run Tryd.prog w = .ok false w := by kernel_rfl
  refine eqFields_cons (by simp) (run_part_leaf hag rfl) (run_part_leaf hag rfl) (run_equalIn_int _ _ _ _ _ _ _ Tryd.underlying3) ?_
  refine eqFields_cons (by simp) (run_part_leaf hag rfl) (run_part_leaf hag rfl) (run_equalIn_int _ _ _ _ _ _ _ Tryd.underlying3) ?_
  refine eqFields_cons (by simp) (run_part_leaf hag rfl) (run_part_leaf hag rfl) (run_equalIn_int _ _ _ _ _ _ _ Tryd.underlying3) ?_
  refine eqFields_cons (by simp) (run_part_leaf hag rfl) (run_part_leaf hag rfl) (run_equalIn_int _ _ _ _ _ _ _ Tryd.underlying3) ?_
  refine eqFields_cons (by simp) (run_part_leaf hab rfl) (run_part_leaf hab rfl) (run_equalIn_bool' _ _ _ _ _ Tryd.underlying4) ?_
  refine eqFields_cons (by simp) (run_part_leaf hag rfl) (run_part_leaf hag rfl) (run_equalIn_int _ _ _ _ _ _ _ Tryd.underlying3) ?_
  refine eqFields_cons (by simp) (run_part_leaf hag rfl) (run_part_leaf hag rfl) (run_equalIn_int _ _ _ _ _ _ _ Tryd.underlying3) ?_
  exact eqFields_nil
@[go_sem ↓ high] theorem run_neq_cam (W H Z N : Int) (D : Bool) (L F : Int) (w : World) : (binOp .neq 31 (.agg #[.int .i64 W, .int .i64 H, .int .i64 Z, .int .i64 N, .bool D, .int .i64 L, .int .i64 F]) (.agg #[.int .i64 W, .int .i64 H, .int .i64 Z, .int .i64 N, .bool D, .int .i64 L, .int .i64 F])).run Tryd.prog w = .ok (.bool false) w := by
  rw [run_neq_struct, equal_cam (d := 9998), camEq_self]
  rfl
@[go_sem ↓ high] theorem guard_cam (op : BinOp) (x y : Operand) (xs ys : Array Value) (w : World) : (eqGuard op 31 x y (.agg xs) (.agg ys)).run Tryd.prog w = .ok () w := run_eqGuard_agg w op _ x y xs ys (by kernel_rfl)
theorem parseC_cam {W H Z N L F : Int} {D : Bool} (h : camOk W H Z N L F = true) : parseC (camB W H Z N D L F) = some ⟨W, H, Z, N, D, L, F⟩ := by
  have hb : camB W H Z N D L F = fmtsB [W, H, Z, N, if D then 1 else 0, L, F] := by unfold camB; rw [h]; rfl
  have hd : (if D then (1 : Int) else 0) = 0 ∨ (if D then (1 : Int) else 0) = 1 := by cases D <;> simp
  have hbd := h
  simp only [camOk, Bool.and_eq_true, inB_true] at hbd
  obtain ⟨⟨⟨⟨⟨h1, h2⟩, h3⟩, h4⟩, h5⟩, h6⟩ := hbd
  have hp : parseIs (camB W H Z N D L F) = some [W, H, Z, N, if D then 1 else 0, L, F] := by
    rw [hb]
    refine parseIs_fmts (by simp) (fun x hx => ?_)
    simp only [List.mem_cons, List.not_mem_nil, or_false] at hx
    rw [fmtOk_true]
    rcases hx with rfl | rfl | rfl | rfl | rfl | rfl | rfl <;> omega
  rw [parseC_seven hp]
  have hD : ((if D then (1 : Int) else 0) == 1) = D := by cases D <;> rfl
  rw [hD, if_pos rfl]
theorem fmtsB_size (l : List Int) (hl : l.length ≤ 7) : (fmtsB l).size ≤ 1048576 := by
  unfold fmtsB
  by_cases h1 : l.isEmpty = true
  · rw [if_pos h1]; exact Nat.le_of_ble_eq_true rfl
  · rw [if_neg h1]
    by_cases h2 : l.all fmtOk = true
    · rw [if_pos h2]
      have h := joinL_bd (l.map fmtB) ⟨#[44]⟩ 11 (fun t ht => by
        obtain ⟨x, _, rfl⟩ := List.mem_map.1 ht
        exact fmtB_len x)
      have e : (joinB (l.map fmtB) ⟨#[44]⟩).size = (joinL (l.map fmtB) ⟨#[44]⟩).length := by
        show (joinL (l.map fmtB) ⟨#[44]⟩).toArray.size = _
        simp
      rw [e]
      have e2 : (⟨#[44]⟩ : ByteArray).size = 1 := rfl
      rw [e2, List.length_map] at h
      omega
    · rw [if_neg h2]; exact Nat.le_of_ble_eq_true rfl
theorem camB_size (W H Z N : Int) (D : Bool) (L F : Int) : (camB W H Z N D L F).size ≤ 1048576 := by
  unfold camB
  split
  · exact fmtsB_size _ (by simp)
  · exact Nat.le_of_ble_eq_true rfl
theorem shift_focal (l L F : Int) : shiftI l L F F = 0 := by simp [shiftI, fdivI]
theorem proj_focal (D : Bool) (Z L F x l h : Int) : projI D Z L F x F l h = projI D Z L F x F 0 h := by simp [projI, shift_focal]
end Go.Proofs.YtdkjiafdfenbkaaDoor
