/- Slices that are read, slices of one's own, and worlds that differ in some blocks alone. -/
import Derived.Test.YtpfmcobkfofbjaaMark
import Derived.Test.YtpfmcobkfofbjaaBox
import Derived.Laws.AppendOwn
namespace Go.Proofs.Ytpfmcobkfofbjaa
open Go Go.RowKit
set_option linter.unusedVariables false
theorem more_self' (w : World) : w = more w #[] w.drawn := by cases w; simp [more]
/-- The slice at a reads as n elements of s cells each: those of element i are C i. -/
def Sl (w : World) (a : Option Addr) (s n : Nat) (C : Nat → List Value) : Prop :=
  0 < n → ∃ b o, a = some ⟨b, o, none⟩ ∧ b < w.heap.size ∧ ∀ i, i < n → ∀ j, j < s → w.cell? ⟨b, o + i * s + j, none⟩ = (C i)[j]?
theorem Sl.below {w w' : World} {a : Option Addr} {s n : Nat} {C : Nat → List Value} (h : Sl w a s n C) (hb : Below w.heap.size w w') : Sl w' a s n C := by
  intro hn
  obtain ⟨b, o, rfl, hlt, hc⟩ := h hn
  exact ⟨b, o, rfl, Nat.lt_of_lt_of_le hlt hb.size, fun i hi j hj => by rw [hb.cell (p := ⟨b, _, none⟩) hlt]; exact hc i hi j hj⟩
theorem Sl.more {w : World} {a : Option Addr} {s n : Nat} {C : Nat → List Value} (h : Sl w a s n C) (X : Array Obj) (d : Nat) : Sl (more w X d) a s n C :=
  h.below (Below.more (Below.refl _ _) (Nat.le_refl _) X d)
theorem Sl.alloc {w : World} {a : Option Addr} {s n : Nat} {C : Nat → List Value} (h : Sl w a s n C) (x : Obj) : Sl (w.alloc x) a s n C :=
  h.below (Below.alloc (Below.refl _ _) (Nat.le_refl _) x)
theorem Sl.congr {w : World} {a : Option Addr} {s n : Nat} {C D : Nat → List Value} (h : Sl w a s n C) (e : ∀ i, i < n → C i = D i) : Sl w a s n D := by
  intro hn
  obtain ⟨b, o, rfl, hlt, hc⟩ := h hn
  exact ⟨b, o, rfl, hlt, fun i hi j hj => by rw [hc i hi j hj, e i hi]⟩
/-- Nothing but the blocks from lo on and before hi has changed; more may have come. -/
structure Chg (lo hi : Nat) (w w' : World) : Prop where
  os : w'.os = w.os
  tape : w'.tape = w.tape
  output : w'.output = w.output
  size : w.heap.size ≤ w'.heap.size
  block : ∀ k, k < w.heap.size → (k < lo ∨ hi ≤ k) → w'.heap[k]? = w.heap[k]?
theorem Chg.refl (lo hi : Nat) (w : World) : Chg lo hi w w := ⟨rfl, rfl, rfl, Nat.le_refl _, fun _ _ _ => rfl⟩
theorem Chg.trans {lo hi : Nat} {a b c : World} (h : Chg lo hi a b) (k : Chg lo hi b c) : Chg lo hi a c :=
  ⟨k.os.trans h.os, k.tape.trans h.tape, k.output.trans h.output, Nat.le_trans h.size k.size, fun i hi' ho => (k.block i (Nat.lt_of_lt_of_le hi' h.size) ho).trans (h.block i hi' ho)⟩
theorem Chg.wide {lo hi lo' hi' : Nat} {a b : World} (h : Chg lo hi a b) (h1 : lo' ≤ lo) (h2 : hi ≤ hi') : Chg lo' hi' a b :=
  ⟨h.os, h.tape, h.output, h.size, fun k hk ho => h.block k hk (by omega)⟩
theorem Chg.of_below {lo hi : Nat} {a b : World} (h : Below a.heap.size a b) : Chg lo hi a b :=
  ⟨h.os, h.tape, h.output, h.size, fun k hk _ => h.block k hk⟩
theorem Below.chg {B lo hi : Nat} {a b c : World} (h : Below B a b) (k : Chg lo hi b c) (hlo : B ≤ lo) (hB : B ≤ b.heap.size) : Below B a c :=
  h.trans ⟨k.os, k.tape, k.output, k.size, fun i hi' => k.block i (Nat.lt_of_lt_of_le hi' hB) (.inl (Nat.lt_of_lt_of_le hi' hlo))⟩
theorem Below.wide {B B' : Nat} {a b : World} (h : Below B a b) (hB : B' ≤ B) : Below B' a b := h.mono hB
/-- The slice at a has n elements of s cells each in a block of one's own from lo on and before hi. -/
def Ow (w : World) (lo hi : Nat) (a : Option Addr) (s n : Nat) (C : Nat → List Value) : Prop :=
  0 < n → ∃ g arr e, a = some ⟨g, 0, none⟩ ∧ lo ≤ g ∧ g < hi ∧ w.heap[g]? = some (.cells ⟨arr⟩ e (0, 0)) ∧ n * s ≤ arr.length ∧ ∀ i, i < n → ∀ j, j < s → arr[i * s + j]? = (C i)[j]?
theorem Ow.sl {w : World} {lo hi : Nat} {a : Option Addr} {s n : Nat} {C : Nat → List Value} (h : Ow w lo hi a s n C) : Sl w a s n C := by
  intro hn
  obtain ⟨g, arr, e, rfl, _, _, hg, _, hx⟩ := h hn
  refine ⟨g, 0, rfl, (Array.getElem?_eq_some_iff.1 hg).1, fun i hi j hj => ?_⟩
  rw [cell_of_row w g _ ⟨arr⟩ e (0, 0) hg, ← hx i hi j hj]
  simp
theorem Ow.chg {w w' : World} {lo hi lo' hi' : Nat} {a : Option Addr} {s n : Nat} {C : Nat → List Value} (h : Ow w lo hi a s n C) (k : Chg lo' hi' w w') (hd : hi ≤ lo' ∨ hi' ≤ lo) : Ow w' lo hi a s n C := by
  intro hn
  obtain ⟨g, arr, e, rfl, h1, h2, hg, hl, hx⟩ := h hn
  exact ⟨g, arr, e, rfl, h1, h2, by rw [k.block g (Array.getElem?_eq_some_iff.1 hg).1 (by omega)]; exact hg, hl, hx⟩
theorem Ow.below {w w' : World} {lo hi : Nat} {a : Option Addr} {s n : Nat} {C : Nat → List Value} (h : Ow w lo hi a s n C) (hb : Below w.heap.size w w') : Ow w' lo hi a s n C :=
  h.chg (Chg.of_below (lo := hi) (hi := hi) hb) (.inl (Nat.le_refl _))
theorem Ow.wide {w : World} {lo hi lo' hi' : Nat} {a : Option Addr} {s n : Nat} {C : Nat → List Value} (h : Ow w lo hi a s n C) (h1 : lo' ≤ lo) (h2 : hi ≤ hi') : Ow w lo' hi' a s n C := by
  intro hn
  obtain ⟨g, arr, e, rfl, k1, k2, r⟩ := h hn
  exact ⟨g, arr, e, rfl, by omega, by omega, r⟩
theorem Ow.congr {w : World} {lo hi : Nat} {a : Option Addr} {s n : Nat} {C D : Nat → List Value} (h : Ow w lo hi a s n C) (e : ∀ i, i < n → C i = D i) : Ow w lo hi a s n D := by
  intro hn
  obtain ⟨g, arr, e', rfl, k1, k2, hg, hl, hx⟩ := h hn
  exact ⟨g, arr, e', rfl, k1, k2, hg, hl, fun i hi j hj => by rw [hx i hi j hj, e i hi]⟩
theorem Ow.none {w : World} {lo hi : Nat} {a : Option Addr} {s : Nat} {C : Nat → List Value} : Ow w lo hi a s 0 C := fun h => absurd h (Nat.lt_irrefl 0)
theorem Sl.none {w : World} {a : Option Addr} {s : Nat} {C : Nat → List Value} : Sl w a s 0 C := fun h => absurd h (Nat.lt_irrefl 0)
theorem cell_below {w w' : World} {b o : Nat} {v : Value} (h : Below w.heap.size w w') (c : w.cell? ⟨b, o, none⟩ = some v) : w'.cell? ⟨b, o, none⟩ = some v :=
  (h.cell (p := ⟨b, o, none⟩) (World.block_lt_of_cell? _ _ c)).trans c
theorem cell_chg {w w' : World} {lo hi b o : Nat} {v : Value} (h : Chg lo hi w w') (hd : b < lo ∨ hi ≤ b) (c : w.cell? ⟨b, o, none⟩ = some v) : w'.cell? ⟨b, o, none⟩ = some v :=
  (World.cell?_of_block (h.block b (World.block_lt_of_cell? _ _ c) hd)).trans c
/-- A slice of one's own comes back; what was there stays. -/
def Gives (w : World) (s n : Nat) (C : Nat → List Value) (e : Ending) (w' : World) : Prop :=
  ∃ a cap, e = .returned (.slice a n cap) ∧ Ow w' w.heap.size w'.heap.size a s n C ∧ Below w.heap.size w w'
/-- What an append has grown is one's own. -/
theorem ow_of_ownsRow {w : World} {lo : Nat} {e : TypeId} {s : Nat} {v : Value} {n : Nat} {xs : List Value} {C : Nat → List Value} (h : w.ownsRow lo e s v n xs) (hC : ∀ i, i < n → ∀ j, j < s → xs[i * s + j]? = (C i)[j]?) :
    ∃ a cap, v = .slice a n cap ∧ Ow w lo w.heap.size a s n C := by
  obtain ⟨h1, h2⟩ := h
  rcases h2 with ⟨rfl, rfl⟩ | ⟨g, cap, cur, rfl, hb, hg, hnc, hcm, hcs, ht⟩
  · exact ⟨_, _, rfl, Ow.none⟩
  · refine ⟨_, cap, rfl, fun hn => ⟨g, cur.toList, e, rfl, hb, (Array.getElem?_eq_some_iff.1 hg).1, hg, ?_, ?_⟩⟩
    · have : cur.toList.length = cap * s := by simpa using hcs
      rw [this]; exact Nat.mul_le_mul_right s hnc
    · intro i hi j hj
      rw [← hC i hi j hj, ← ht, List.getElem?_take, if_pos]
      have : i * s + s ≤ n * s := by
        have := Nat.mul_le_mul_right s (show i + 1 ≤ n by omega)
        rw [Nat.add_mul, Nat.one_mul] at this; exact this
      omega
theorem heap_at_new {w : World} {x : Obj} {b : Nat} (h : b = w.heap.size) : (w.alloc x).heap[b]? = some x := by
  subst h; exact heap_alloc_new w x
theorem own_form {w : World} {base : Nat} {e : TypeId} {s : Nat} {v : Value} {n : Nat} {xs : List Value} (h : w.ownsRow base e s v (n + 1) xs) (hs : 0 < s) : ∃ g cap, v = .slice (some ⟨g, 0, none⟩) (n + 1) cap := by
  obtain ⟨h1, h2⟩ := h
  rcases h2 with ⟨rfl, h0⟩ | ⟨g, cap, cur, rfl, _⟩
  · exact absurd h0 (Nat.succ_ne_zero n)
  · exact ⟨g, cap, rfl⟩
/-- .. and there is room for what it holds. -/
theorem ow_of_ownsRow_cap {w : World} {lo : Nat} {e : TypeId} {s : Nat} {v : Value} {n : Nat} {xs : List Value} {C : Nat → List Value} (h : w.ownsRow lo e s v n xs) (hC : ∀ i, i < n → ∀ j, j < s → xs[i * s + j]? = (C i)[j]?) :
    ∃ a cap, v = .slice a n cap ∧ Ow w lo w.heap.size a s n C ∧ n ≤ cap := by
  obtain ⟨a, cap, rfl, ho⟩ := ow_of_ownsRow h hC
  refine ⟨a, cap, rfl, ho, ?_⟩
  obtain ⟨h1, h2⟩ := h
  rcases h2 with ⟨e1, h0⟩ | ⟨g, cap', cur, e1, hb, hg, hnc, _⟩
  · simp only [Value.slice.injEq] at e1; omega
  · simp only [Value.slice.injEq] at e1; omega
/-- .. with room for what it holds. -/
def GivesC (w : World) (s n : Nat) (C : Nat → List Value) (e : Ending) (w' : World) : Prop :=
  ∃ a cap, e = .returned (.slice a n cap) ∧ Ow w' w.heap.size w'.heap.size a s n C ∧ Below w.heap.size w w' ∧ n ≤ cap
theorem GivesC.gives {w : World} {s n : Nat} {C : Nat → List Value} {e : Ending} {w' : World} (h : GivesC w s n C e w') : Gives w s n C e w' := by
  obtain ⟨a, cap, h1, h2, h3, _⟩ := h
  exact ⟨a, cap, h1, h2, h3⟩
/-- A block of one's own that is known whole. -/
theorem ow_new {w : World} {lo hi s n : Nat} {C : Nat → List Value} {arr : List Value} {e : TypeId} {g : Nat} (hg : w.heap[g]? = some (.cells ⟨arr⟩ e (0, 0))) (h1 : lo ≤ g) (h2 : g < hi) (hl : n * s ≤ arr.length)
    (hx : ∀ i, i < n → ∀ j, j < s → arr[i * s + j]? = (C i)[j]?) : Ow w lo hi (some ⟨g, 0, none⟩) s n C := fun _ => ⟨g, arr, e, rfl, h1, h2, hg, hl, hx⟩
/-- The cells of a list of elements, one behind the other. -/
def flat (s : Nat) (n : Nat) (C : Nat → List Value) : List Value := ((List.range n).map C).flatten
theorem flat_zero (s : Nat) (C : Nat → List Value) : flat s 0 C = [] := rfl
theorem flat_succ (s n : Nat) (C : Nat → List Value) : flat s (n + 1) C = flat s n C ++ C n := by
  simp [flat, List.range_succ]
theorem flat_len {s n : Nat} {C : Nat → List Value} (h : ∀ i, i < n → (C i).length = s) : (flat s n C).length = n * s := by
  induction n with
  | zero => simp [flat]
  | succ n ih => rw [flat_succ, List.length_append, ih (fun i hi => h i (by omega)), h n (by omega), Nat.add_mul, Nat.one_mul]
theorem flat_get {s n : Nat} {C : Nat → List Value} (h : ∀ i, i < n → (C i).length = s) : ∀ i, i < n → ∀ j, j < s → (flat s n C)[i * s + j]? = (C i)[j]? := by
  induction n with
  | zero => intro i hi; omega
  | succ n ih =>
    intro i hi j hj
    have hl := flat_len (s := s) (n := n) (C := C) (fun i hi => h i (by omega))
    rw [flat_succ]
    by_cases hin : i = n
    · subst hin
      rw [List.getElem?_append_right (by omega), hl]
      congr 1; omega
    · have h1 : i * s + s ≤ n * s := by
        have := Nat.mul_le_mul_right s (show i + 1 ≤ n by omega)
        rw [Nat.add_mul, Nat.one_mul] at this; exact this
      rw [List.getElem?_append_left (by omega)]
      exact ih (fun i hi => h i (by omega)) i (by omega) j hj
theorem flat_congr {s n : Nat} {C D : Nat → List Value} (h : ∀ i, i < n → C i = D i) : flat s n C = flat s n D := by
  induction n with
  | zero => rfl
  | succ n ih => rw [flat_succ, flat_succ, ih (fun i hi => h i (by omega)), h n (by omega)]
theorem gives_of_flat {w w' : World} {e : TypeId} {s n : Nat} {v : Value} {C : Nat → List Value} (h : w'.ownsRow w.heap.size e s v n (flat s n C)) (hC : ∀ i, i < n → (C i).length = s) (hb : Below w.heap.size w w') : Gives w s n C (.returned v) w' := by
  obtain ⟨a, cap, rfl, ho⟩ := ow_of_ownsRow h (flat_get hC)
  exact ⟨a, cap, rfl, ho, hb⟩
theorem Gives.nil {w w' : World} {s : Nat} {C : Nat → List Value} {a : Option Addr} {cap : Nat} (hb : Below w.heap.size w w') : Gives w s 0 C (.returned (.slice a 0 cap)) w' := ⟨a, cap, rfl, Ow.none, hb⟩
end Go.Proofs.Ytpfmcobkfofbjaa
