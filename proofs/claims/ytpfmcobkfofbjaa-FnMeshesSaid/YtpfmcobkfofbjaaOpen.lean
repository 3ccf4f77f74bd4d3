/- What an argument's value looks like, read off its being well formed. -/
import Derived.Test.YtpfmcobkfofbjaaRows
import Derived.WalkKit
import Derived.ProofKit
namespace Go.Proofs.Ytpfmcobkfofbjaa
open Go.RowKit Go.WideShapes

theorem cell_int {P : Program} {w : World} {r : Reach} {b : Nat} {t : TypeId} {k : IntKind} {v : Value} (ht : P.underlying t = some (.int k)) (h : Cell.okWide P w r b t v) : ∃ n, v = .int k n ∧ k.has n := by
  unfold Cell.okWide at h
  rw [ht] at h
  cases v <;> simp [Cell.ok, ht] at h
  obtain ⟨rfl, h⟩ := h
  exact ⟨_, rfl, h⟩
theorem cell_bool {P : Program} {w : World} {r : Reach} {b : Nat} {t : TypeId} {v : Value} (ht : P.underlying t = some .bool) (h : Cell.okWide P w r b t v) : ∃ n, v = .bool n := by
  unfold Cell.okWide at h
  rw [ht] at h
  cases v <;> simp [Cell.ok, ht] at h
  exact ⟨_, rfl⟩
/-- A flat struct's or array's cells, one by one. -/
theorem agg_cells {P : Program} {w : World} {r : Reach} {b : Nat} {t : TypeId} {cs : Array Value} (ts : List TypeId) (hts : P.cellTypes P.depth t = some ts) (hrow : Row.okWide P w r b t cs) (hsz : cs.size = ts.length) :
    ∀ (i : Nat) (c : Value), cs[i]? = some c → ∃ u, ts[i]? = some u ∧ Cell.okWide P w r b u c := by
  obtain ⟨ts', h1, _, h2⟩ := hrow
  rw [hts] at h1
  obtain rfl := Option.some.inj h1
  intro i c hc
  obtain ⟨u, hu, ho⟩ := h2 i c hc
  have hi : i < cs.size := by
    by_cases hi : i < cs.size
    · exact hi
    · rw [Array.getElem?_eq_none (by omega)] at hc; cases hc
  rw [Nat.mod_eq_of_lt (by omega)] at hu
  exact ⟨u, hu, ho⟩
theorem open_flat {P : Program} {w : World} {r : Reach} {b : Nat} {t : TypeId} {v : Value} {fs : Array Field} (ts : List TypeId) (ht : P.underlying t = some (.struct fs)) (hts : P.cellTypes P.depth t = some ts) (hn : P.cellsOf t = ts.length) (h : Value.okWide P w r b t v) :
    ∃ l : List Value, v = .agg ⟨l⟩ ∧ l.length = ts.length ∧ ∀ (i : Nat) (c : Value), l[i]? = some c → ∃ u, ts[i]? = some u ∧ Cell.okWide P w r b u c := by
  unfold Value.okWide at h
  rw [ht] at h
  obtain ⟨cs, rfl, hsz, hrow⟩ := h
  refine ⟨cs.toList, rfl, by simpa [hn] using hsz, fun i c hc => agg_cells ts hts hrow (by rw [hsz, hn]) i c (by simpa using hc)⟩
/-- A flat struct or array of integers: its numbers. -/
theorem cells_ints {P : Program} {w : World} {r : Reach} {b u : Nat} (hu : P.underlying u = some (.int .i64)) : ∀ (n : Nat) (l : List Value), l.length = n →
    (∀ (i : Nat) (c : Value), l[i]? = some c → ∃ t, (List.replicate n u)[i]? = some t ∧ Cell.okWide P w r b t c) → ∃ ns : List Int, ns.length = n ∧ l = ns.map (.int .i64) ∧ ∀ x ∈ ns, IntKind.i64.has x
  | 0, [], _, _ => ⟨[], rfl, rfl, by simp⟩
  | n + 1, c :: l, hl, h => by
    obtain ⟨t, h1, h2⟩ := h 0 c rfl
    simp at h1
    subst h1
    obtain ⟨x, rfl, hx⟩ := cell_int hu h2
    obtain ⟨ns, k1, k2, k3⟩ := cells_ints hu n l (by simpa using hl) (fun i c hc => by
      have := h (i + 1) c (by simpa using hc)
      simpa [List.replicate_succ] using this)
    exact ⟨x :: ns, by simp [k1], by simp [k2], by simpa using ⟨hx, k3⟩⟩
theorem open_array {P : Program} {w : World} {r : Reach} {b : Nat} {t : TypeId} {v : Value} {m : Nat} {e : TypeId} (ts : List TypeId) (ht : P.underlying t = some (.array m e)) (hts : P.cellTypes P.depth t = some ts) (hn : P.cellsOf t = ts.length) (h : Value.okWide P w r b t v) :
    ∃ l : List Value, v = .agg ⟨l⟩ ∧ l.length = ts.length ∧ ∀ (i : Nat) (c : Value), l[i]? = some c → ∃ u, ts[i]? = some u ∧ Cell.okWide P w r b u c := by
  unfold Value.okWide at h
  rw [ht] at h
  obtain ⟨cs, rfl, hsz, hrow⟩ := h
  refine ⟨cs.toList, rfl, by simpa [hn] using hsz, fun i c hc => agg_cells ts hts hrow (by rw [hsz, hn]) i c (by simpa using hc)⟩
theorem list3 {α : Type} {l : List α} (h : l.length = 3) : ∃ x0 x1 x2, l = [x0, x1, x2] := by
  match l, h with
  | [x0, x1, x2], _ => exact ⟨x0, x1, x2, rfl⟩
theorem list4 {α : Type} {l : List α} (h : l.length = 4) : ∃ x0 x1 x2 x3, l = [x0, x1, x2, x3] := by
  match l, h with
  | [x0, x1, x2, x3], _ => exact ⟨x0, x1, x2, x3, rfl⟩
theorem list5 {α : Type} {l : List α} (h : l.length = 5) : ∃ x0 x1 x2 x3 x4, l = [x0, x1, x2, x3, x4] := by
  match l, h with
  | [x0, x1, x2, x3, x4], _ => exact ⟨x0, x1, x2, x3, x4, rfl⟩
theorem list6 {α : Type} {l : List α} (h : l.length = 6) : ∃ x0 x1 x2 x3 x4 x5, l = [x0, x1, x2, x3, x4, x5] := by
  match l, h with
  | [x0, x1, x2, x3, x4, x5], _ => exact ⟨x0, x1, x2, x3, x4, x5, rfl⟩
theorem list7 {α : Type} {l : List α} (h : l.length = 7) : ∃ x0 x1 x2 x3 x4 x5 x6, l = [x0, x1, x2, x3, x4, x5, x6] := by
  match l, h with
  | [x0, x1, x2, x3, x4, x5, x6], _ => exact ⟨x0, x1, x2, x3, x4, x5, x6, rfl⟩
theorem list9 {α : Type} {l : List α} (h : l.length = 9) : ∃ x0 x1 x2 x3 x4 x5 x6 x7 x8, l = [x0, x1, x2, x3, x4, x5, x6, x7, x8] := by
  match l, h with
  | [x0, x1, x2, x3, x4, x5, x6, x7, x8], _ => exact ⟨x0, x1, x2, x3, x4, x5, x6, x7, x8, rfl⟩
theorem list12 {α : Type} {l : List α} (h : l.length = 12) : ∃ x0 x1 x2 x3 x4 x5 x6 x7 x8 x9 x10 x11, l = [x0, x1, x2, x3, x4, x5, x6, x7, x8, x9, x10, x11] := by
  match l, h with
  | [x0, x1, x2, x3, x4, x5, x6, x7, x8, x9, x10, x11], _ => exact ⟨x0, x1, x2, x3, x4, x5, x6, x7, x8, x9, x10, x11, rfl⟩
end Go.Proofs.Ytpfmcobkfofbjaa
