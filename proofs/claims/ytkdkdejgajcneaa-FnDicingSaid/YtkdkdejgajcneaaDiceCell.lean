/- Contracts of DiceCell. -/
import Derived.Test.YtkdkdejgajcneaaDiceI
namespace Go.Proofs.Ytkdkdejgajcneaa
open Go Go.RowKit
theorem dcD_no {c : CamD} {p : PatD} {u v n lx ly : Int} (h : dcIn u v n = false) : dcD c p u v n lx ly = [] := by simp [dcD, dcOk, h]
theorem dcD_len (c : CamD) (p : PatD) (u v n lx ly : Int) : (dcD c p u v n lx ly).length ≤ 2 := by unfold dcD; split <;> simp [dcTwo]
theorem spec_DiceCell_q (c : CamD) (p : PatD) (u v n lx ly : Int) (w : World) :
    Calls Try.prog 25 #[c.val, p.val, .int .i64 u, .int .i64 v, .int .i64 n, .int .i64 lx, .int .i64 ly] w (CellQ w (dcD c p u v n lx ly)) := by
  cases h : dcIn u v n
  · rw [dcD_no h]; exact spec_DiceCell_no c p u v n lx ly w h
  · exact spec_DiceCell_in c p u v n lx ly w h
theorem impl_DiceCell_q (c : CamD) (p : PatD) (u v n lx ly : Int) (w : World) :
    Calls Try.prog 26 #[c.val, p.val, .int .i64 u, .int .i64 v, .int .i64 n, .int .i64 lx, .int .i64 ly] w (CellQ w (dcD c p u v n lx ly)) := by
  cases h : dcIn u v n
  · rw [dcD_no h]; exact impl_DiceCell_no c p u v n lx ly w h
  · exact impl_DiceCell_in c p u v n lx ly w h
theorem spec_DiceCell_c (c : CamD) (p : PatD) (u v n lx ly : Int) (w : World) :
    Calls Try.prog 25 #[c.val, p.val, .int .i64 u, .int .i64 v, .int .i64 n, .int .i64 lx, .int .i64 ly] w (Gives w 12 (dcD c p u v n lx ly).length (MicropolygonD.at (dcD c p u v n lx ly))) :=
  (spec_DiceCell_q c p u v n lx ly w).mono fun _ _ h => h.gives.gives
theorem impl_DiceCell_c (c : CamD) (p : PatD) (u v n lx ly : Int) (w : World) :
    Calls Try.prog 26 #[c.val, p.val, .int .i64 u, .int .i64 v, .int .i64 n, .int .i64 lx, .int .i64 ly] w (Gives w 12 (dcD c p u v n lx ly).length (MicropolygonD.at (dcD c p u v n lx ly))) :=
  (impl_DiceCell_q c p u v n lx ly w).mono fun _ _ h => h.gives.gives
end Go.Proofs.Ytkdkdejgajcneaa
