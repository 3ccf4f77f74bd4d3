/- SVec, with Recs ahead of it. -/
import Derived.Test.YtpfmcobkfofbjaaMark
import Derived.Test.YtpfmcobkfofbjaaBox
import Derived.Test.YtpfmcobkfofbjaaTrod
namespace Go.Proofs.Ytpfmcobkfofbjaa
open Go.RowKit
theorem more_self (w : World) : w = more w #[] w.drawn := by cases w; simp [more]
/-- The slice value v reads as n elements of s cells each: those of element i are C i. -/
def Recs (w : World) (v : Value) (s n : Nat) (C : Nat → List Value) : Prop :=
  (n = 0 ∧ ∃ a cap, v = .slice a 0 cap) ∨ ∃ b o cap, v = .slice (some ⟨b, o, none⟩) n cap ∧ 0 < n ∧ b < w.heap.size ∧ ∀ i, i < n → ∀ j, j < s → w.cell? ⟨b, o + i * s + j, none⟩ = (C i)[j]?
theorem Recs.below {w w' : World} {v : Value} {s n : Nat} {C : Nat → List Value} (h : Recs w v s n C) (hb : Below w.heap.size w w') : Recs w' v s n C := by
  refine h.imp id ?_
  rintro ⟨b, o, cap, rfl, hn, hlt, hc⟩
  exact ⟨b, o, cap, rfl, hn, Nat.lt_of_lt_of_le hlt hb.size, fun i hi j hj => by rw [hb.cell (p := ⟨b, _, none⟩) hlt]; exact hc i hi j hj⟩
/-- .. and lies in a block of one's own, from lo on. -/
def Recz (w : World) (lo : Nat) (v : Value) (s n : Nat) (C : Nat → List Value) : Prop :=
  (n = 0 ∧ ∃ a cap, v = .slice a 0 cap) ∨ ∃ g cap arr e, v = .slice (some ⟨g, 0, none⟩) n cap ∧ 0 < n ∧ lo ≤ g ∧ w.heap[g]? = some (.cells ⟨arr⟩ e (0, 0)) ∧ n * s ≤ arr.length ∧ ∀ i, i < n → ∀ j, j < s → arr[i * s + j]? = (C i)[j]?
theorem Recz.recs {w : World} {lo : Nat} {v : Value} {s n : Nat} {C : Nat → List Value} (h : Recz w lo v s n C) : Recs w v s n C := by
  refine h.imp id ?_
  rintro ⟨g, cap, arr, e, rfl, hn, hlo, hg, hl, hx⟩
  refine ⟨g, 0, cap, rfl, hn, (Array.getElem?_eq_some_iff.1 hg).1, fun i hi j hj => ?_⟩
  rw [cell_of_row w g _ ⟨arr⟩ e (0, 0) hg, ← hx i hi j hj]
  simp
theorem Recz.below {w w' : World} {lo : Nat} {v : Value} {s n : Nat} {C : Nat → List Value} (h : Recz w lo v s n C) (hb : Below w.heap.size w w') : Recz w' lo v s n C := by
  refine h.imp id ?_
  rintro ⟨g, cap, arr, e, rfl, hn, hlo, hg, hl, hx⟩
  exact ⟨g, cap, arr, e, rfl, hn, hlo, by rw [hb.block g (Array.getElem?_eq_some_iff.1 hg).1]; exact hg, hl, hx⟩
theorem Recs.len {w : World} {v : Value} {s n : Nat} {C : Nat → List Value} (h : Recs w v s n C) : ∃ a cap, v = .slice a n cap := by
  rcases h with ⟨rfl, a, cap, rfl⟩ | ⟨b, o, cap, rfl, _⟩
  · exact ⟨a, cap, rfl⟩
  · exact ⟨_, cap, rfl⟩
/-- The cells of one element, laid. -/
def setRow (arr : List Value) (p : Nat) : List Value → List Value
  | [] => arr
  | c :: cs => setRow (arr.set p c) (p + 1) cs
theorem setRow_len (cs : List Value) : ∀ (arr : List Value) (p : Nat), (setRow arr p cs).length = arr.length := by
  induction cs with
  | nil => intro arr p; rfl
  | cons c cs ih => intro arr p; rw [setRow, ih]; simp
theorem setRow_out (cs : List Value) : ∀ (arr : List Value) (p q : Nat), (q < p ∨ p + cs.length ≤ q) → (setRow arr p cs)[q]? = arr[q]? := by
  induction cs with
  | nil => intro arr p q _; rfl
  | cons c cs ih =>
    intro arr p q h
    simp only [List.length_cons] at h
    rw [setRow, ih _ _ _ (by omega), List.getElem?_set_ne (by omega)]
theorem setRow_in (cs : List Value) : ∀ (arr : List Value) (p j : Nat), p + cs.length ≤ arr.length → j < cs.length → (setRow arr p cs)[p + j]? = cs[j]? := by
  induction cs with
  | nil => intro arr p j _ hj; simp at hj
  | cons c cs ih =>
    intro arr p j h hj
    simp only [List.length_cons] at h hj
    rw [setRow]
    cases j with
    | zero => rw [setRow_out _ _ _ _ (by omega), Nat.add_zero, List.getElem?_set_self (by omega)]; rfl
    | succ j =>
      have := ih (arr.set p c) (p + 1) j (by simp; omega) (by omega)
      rw [show p + (j + 1) = p + 1 + j by omega, this]; rfl
/-- The first k elements are laid. -/
def Filled (arr : List Value) (s n k : Nat) (C : Nat → List Value) : Prop := arr.length = n * s ∧ ∀ i, i < k → ∀ j, j < s → arr[i * s + j]? = (C i)[j]?
theorem Filled.start {arr : List Value} {s n : Nat} {C : Nat → List Value} (h : arr.length = n * s) : Filled arr s n 0 C := ⟨h, fun i hi => by omega⟩
theorem row_lt {i k s n : Nat} (hi : i < k) (hk : k ≤ n) : i * s + s ≤ n * s := by
  have : (i + 1) * s ≤ n * s := Nat.mul_le_mul_right s (by omega)
  rw [Nat.add_mul, Nat.one_mul] at this; exact this
theorem Filled.next {arr cs : List Value} {s n k : Nat} {C : Nat → List Value} (h : Filled arr s n k C) (hk : k < n) (hs : cs.length = s) (hcs : ∀ j, j < s → cs[j]? = (C k)[j]?) : Filled (setRow arr (k * s) cs) s n (k + 1) C := by
  have hb := row_lt (s := s) (Nat.lt_succ_self k) (show k + 1 ≤ n from hk)
  refine ⟨by rw [setRow_len]; exact h.1, fun i hi j hj => ?_⟩
  by_cases hik : i = k
  · subst hik
    rw [setRow_in cs arr (i * s) j (by rw [hs, h.1]; exact hb) (by omega)]
    exact hcs j hj
  · have h1 := row_lt (s := s) (show i < k by omega) (Nat.le_refl k)
    rw [setRow_out cs arr (k * s) (i * s + j) (.inl (by omega))]
    exact h.2 i (by omega) j hj
theorem Filled.recz {arr : List Value} {s n lo g cap : Nat} {C : Nat → List Value} {w : World} {e : TypeId} (h : Filled arr s n n C) (hlo : lo ≤ g) (hg : w.heap[g]? = some (.cells ⟨arr⟩ e (0, 0))) : Recz w lo (.slice (some ⟨g, 0, none⟩) n cap) s n C := by
  by_cases hn : n = 0
  · subst hn; exact .inl ⟨rfl, _, _, rfl⟩
  · exact .inr ⟨g, cap, arr, e, rfl, by omega, hlo, hg, by rw [h.1]; exact Nat.le_refl _, h.2⟩
end Go.Proofs.Ytpfmcobkfofbjaa
namespace Go.Proofs.Ytpfmcobkfofbjaa
open Go.RowKit
set_option linter.unusedVariables false
structure VecD where
  f0 : Int
  f1 : Int
  f2 : Int
instance : Inhabited VecD := ⟨⟨0, 0, 0⟩⟩
@[reducible] def VecD.cells (x : VecD) : List Value := [.int .i64 x.f0, .int .i64 x.f1, .int .i64 x.f2]
def VecD.at (l : List VecD) (i : Nat) : List Value := (l.getD i default).cells
theorem VecD.at_len (l : List VecD) (i : Nat) : (VecD.at l i).length = 3 := rfl
theorem info_Vec : (Try.prog.info? 29).map (fun i => (i.zero, i.size, i.bytes)) = some (some (.agg #[.int .i64 0, .int .i64 0, .int .i64 0]), 3, 24) := by kernel_rfl
end Go.Proofs.Ytpfmcobkfofbjaa
