/- Adjacent patches have the same points on their common edge. -/
import Derived.Test.YtkdkdejgajcneaaDiceCell
import Derived.Test.YtkdkdejgajcneaaBound
namespace Go.Proofs.Ytkdkdejgajcneaa
open Go Go.RowKit
set_option linter.unusedVariables false
theorem ev_edge (a c x y x' y' n j : Int) : evI x a y c n j n = evI a x' c y' 0 j n := by
  unfold evI
  simp only [Int.sub_self, Int.zero_mul, Int.zero_add, Int.add_zero, Int.sub_zero]
theorem ev_corner (a x y z n : Int) (hn : 1 ≤ n) (ha : -1000000 ≤ a ∧ a ≤ 1000000) : evI a x y z 0 0 n = a := by
  have hm : 1 ≤ n * n := by
    have := Int.mul_le_mul_of_nonneg_left (a := 1) (b := n) (c := n) hn (by omega)
    omega
  unfold evI
  simp only [Int.sub_zero, Int.zero_mul, Int.mul_zero, Int.add_zero]
  rw [fdiv_hi hm, Int.mul_ediv_cancel_left _ (by omega), cc_id ha]
theorem len_two {α : Type} {l : List α} (h : l.length = 2) : ∃ a b, l = [a, b] := by
  rcases l with _ | ⟨a, _ | ⟨b, _ | ⟨c, l⟩⟩⟩
  · simp at h
  · simp at h
  · exact ⟨a, b, rfl⟩
  · simp at h
/-- Patch b takes two corners of patch a. -/
def joinP (a b : PatD) : PatD := ⟨a.t3, a.t4, a.t5, b.t3, b.t4, b.t5, a.t9, a.t10, a.t11, b.t9, b.t10, b.t11⟩
theorem evP_join (a b : PatD) (n j : Int) : evP a n j n = evP (joinP a b) 0 j n := by
  simp only [evP, joinP]
  rw [ev_edge a.t3 a.t9 a.t0 a.t6 b.t3 b.t9, ev_edge a.t4 a.t10 a.t1 a.t7 b.t4 b.t10, ev_edge a.t5 a.t11 a.t2 a.t8 b.t5 b.t11]
/-- The edge of a's last cell and that of b's first lie at the same place. -/
theorem pt_join (c : CamD) (a b : PatD) (n j lx ly : Int) : ptAt c a (n - 1) j n lx ly 1 = ptAt c (joinP a b) 0 j n lx ly 0 := by
  rw [ptAt_1, ptAt_0, show n - 1 + 1 = n by omega, evP_join a b n j]
/-- What the law compares. -/
theorem cells_join {c : CamD} {a b : PatD} {n j lx ly : Int} (h1 : dcD c a (n - 1) j n lx ly ≠ []) (h2 : dcD c (joinP a b) 0 j n lx ly ≠ []) :
    ∃ x y, dcD c a (n - 1) j n lx ly = x ∧ dcD c (joinP a b) 0 j n lx ly = y ∧ x.length = 2 ∧ y.length = 2 ∧ ∀ m k, x[0]? = some m → y[0]? = some k → m.f3 = k.f0 ∧ m.f4 = k.f1 ∧ m.f5 = k.f2 := by
  refine ⟨_, _, rfl, rfl, ?_⟩
  unfold dcD at h1 h2 ⊢
  split at h1
  · next k1 =>
    split at h2
    · next k2 =>
      rw [if_pos k1, if_pos k2]
      refine ⟨rfl, rfl, fun m k hm hk => ?_⟩
      simp only [dcTwo, List.getElem?_cons_zero, Option.some.injEq] at hm hk
      subst hm hk
      simp only [micOf, pt_join c a b n j lx ly]
      exact ⟨trivial, trivial, trivial⟩
    · exact absurd rfl h2
  · exact absurd rfl h1
end Go.Proofs.Ytkdkdejgajcneaa
