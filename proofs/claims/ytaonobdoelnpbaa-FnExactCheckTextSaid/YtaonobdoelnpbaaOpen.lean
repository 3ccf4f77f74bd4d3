/- What an argument's value looks like, read off its being well formed. -/
import Derived.Test.YtaonobdoelnpbaaRows
import Derived.WalkKit
import Derived.ProofKit
namespace Go.Proofs.Ytaonobdoelnpbaa
open Go.RowKit Go.WideShapes

theorem cell_int {P : Program} {w : World} {r : Reach} {b : Nat} {t : TypeId} {k : IntKind} {v : Value} (ht : P.underlying t = some (.int k)) (h : Cell.okWide P w r b t v) : ∃ n, v = .int k n ∧ k.has n := by
  unfold Cell.okWide at h
  rw [ht] at h
  cases v <;> simp [Cell.ok, ht] at h
  obtain ⟨rfl, h⟩ := h
  exact ⟨_, rfl, h⟩
theorem cell_bool {P : Program} {w : World} {r : Reach} {b : Nat} {t : TypeId} {v : Value} (ht : P.underlying t = some .bool) (h : Cell.okWide P w r b t v) : ∃ n, v = .bool n := by
  unfold Cell.okWide at h
  rw [ht] at h
  cases v <;> simp [Cell.ok, ht] at h
  exact ⟨_, rfl⟩
/-- A flat struct's or array's cells, one by one. -/
theorem agg_cells {P : Program} {w : World} {r : Reach} {b : Nat} {t : TypeId} {cs : Array Value} (ts : List TypeId) (hts : P.cellTypes P.depth t = some ts) (hrow : Row.okWide P w r b t cs) (hsz : cs.size = ts.length) :
    ∀ (i : Nat) (c : Value), cs[i]? = some c → ∃ u, ts[i]? = some u ∧ Cell.okWide P w r b u c := by
  obtain ⟨ts', h1, _, h2⟩ := hrow
  rw [hts] at h1
  obtain rfl := Option.some.inj h1
  intro i c hc
  obtain ⟨u, hu, ho⟩ := h2 i c hc
  have hi : i < cs.size := by
    by_cases hi : i < cs.size
    · exact hi
    · rw [Array.getElem?_eq_none (by omega)] at hc; cases hc
  rw [Nat.mod_eq_of_lt (by omega)] at hu
  exact ⟨u, hu, ho⟩
theorem open_flat {P : Program} {w : World} {r : Reach} {b : Nat} {t : TypeId} {v : Value} {fs : Array Field} (ts : List TypeId) (ht : P.underlying t = some (.struct fs)) (hts : P.cellTypes P.depth t = some ts) (hn : P.cellsOf t = ts.length) (h : Value.okWide P w r b t v) :
    ∃ l : List Value, v = .agg ⟨l⟩ ∧ l.length = ts.length ∧ ∀ (i : Nat) (c : Value), l[i]? = some c → ∃ u, ts[i]? = some u ∧ Cell.okWide P w r b u c := by
  unfold Value.okWide at h
  rw [ht] at h
  obtain ⟨cs, rfl, hsz, hrow⟩ := h
  refine ⟨cs.toList, rfl, by simpa [hn] using hsz, fun i c hc => agg_cells ts hts hrow (by rw [hsz, hn]) i c (by simpa using hc)⟩
theorem list7 {α : Type} {l : List α} (h : l.length = 7) : ∃ a b c d e f g, l = [a, b, c, d, e, f, g] := by
  match l, h with
  | [a, b, c, d, e, f, g], _ => exact ⟨a, b, c, d, e, f, g, rfl⟩
theorem open_camera {w : World} {r : Reach} {b : Nat} {v : Value} (h : Value.okWide Try.prog w r b 26 v) :
    ∃ (W H Z N : Int) (D : Bool) (L F : Int), v = .agg #[.int .i64 W, .int .i64 H, .int .i64 Z, .int .i64 N, .bool D, .int .i64 L, .int .i64 F] ∧
      IntKind.i64.has W ∧ IntKind.i64.has H ∧ IntKind.i64.has Z ∧ IntKind.i64.has N ∧ IntKind.i64.has L ∧ IntKind.i64.has F := by
  obtain ⟨l, rfl, hl, hc⟩ := open_flat [3, 3, 3, 3, 4, 3, 3] Try.underlying26 (by kernel_rfl) (by kernel_rfl) h
  obtain ⟨c0, c1, c2, c3, c4, c5, c6, rfl⟩ := list7 hl
  obtain ⟨u0, e0, k0⟩ := hc 0 _ rfl; cases e0
  obtain ⟨u1, e1, k1⟩ := hc 1 _ rfl; cases e1
  obtain ⟨u2, e2, k2⟩ := hc 2 _ rfl; cases e2
  obtain ⟨u3, e3, k3⟩ := hc 3 _ rfl; cases e3
  obtain ⟨u4, e4, k4⟩ := hc 4 _ rfl; cases e4
  obtain ⟨u5, e5, k5⟩ := hc 5 _ rfl; cases e5
  obtain ⟨u6, e6, k6⟩ := hc 6 _ rfl; cases e6
  obtain ⟨W, rfl, h0⟩ := cell_int Try.underlying3 k0
  obtain ⟨H, rfl, h1⟩ := cell_int Try.underlying3 k1
  obtain ⟨Z, rfl, h2⟩ := cell_int Try.underlying3 k2
  obtain ⟨N, rfl, h3⟩ := cell_int Try.underlying3 k3
  obtain ⟨D, rfl⟩ := cell_bool Try.underlying4 k4
  obtain ⟨L, rfl, h5⟩ := cell_int Try.underlying3 k5
  obtain ⟨F, rfl, h6⟩ := cell_int Try.underlying3 k6
  exact ⟨W, H, Z, N, D, L, F, rfl, h0, h1, h2, h3, h5, h6⟩
end Go.Proofs.Ytaonobdoelnpbaa
