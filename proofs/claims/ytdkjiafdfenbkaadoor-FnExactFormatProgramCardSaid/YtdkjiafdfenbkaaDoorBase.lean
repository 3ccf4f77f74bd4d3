/- Contracts of the smallest functions: ranges, limits, rounded division. -/
import Derived.Test.YtdkjiafdfenbkaaDoorRows
import Derived.Test.YtdkjiafdfenbkaaDoorMath
import Derived.WalkKit
import Derived.WalkSpells
import Derived.WalkLawsBesides
import Derived.Outline
import Derived.Below
import Derived.Lib.Hide
import Derived.Handy
import Derived.LoopTactic
import Derived.StillTailTactics
import Derived.Test.YtdkjiafdfenbkaaDoorEq
import Derived.Test.YtdkjiafdfenbkaaDoorQuiet
import Derived.Deep.QuietTactic
import Derived.BigQuiet
import Derived.Deep.RegionWith
namespace Go.Proofs.YtdkjiafdfenbkaaDoor
open Go.RowKit

/-- A world with more blocks behind its own, its count of draws set anew: what a call that leaves the old blocks alone comes to. -/
def more (w : World) (X : Array Obj) (n : Nat) : World := { w with heap := w.heap ++ X, drawn := n }
theorem modify_append {α : Type} {A X : Array α} {n : Nat} {f : α → α} (h : n < A.size) : (A ++ X).modify n f = A.modify n f ++ X := by
  apply Array.ext_getElem?
  intro k
  rw [Array.getElem?_modify]
  by_cases hk : k < A.size
  · rw [Array.getElem?_append_left hk, Array.getElem?_append_left (by simpa using hk), Array.getElem?_modify]
  · rw [Array.getElem?_append_right (by omega), Array.getElem?_append_right (by simpa using hk), if_neg (by omega)]
    simp
section
variable {w : World} {X : Array Obj} {d : Nat}
@[simp, go_sem] theorem size_more : (more w X d).heap.size = w.heap.size + X.size := by simp [more]
theorem heap_more (n : Nat) (h : n < w.heap.size) : (more w X d).heap[n]? = w.heap[n]? := by
  simp only [more]
  rw [Array.getElem?_append_left h]
@[go_sem] theorem cell?_more (n i : Nat) (h : n < w.heap.size) : (more w X d).cell? ⟨n, i, none⟩ = w.cell? ⟨n, i, none⟩ :=
  World.cell?_of_block (w := w) (heap_more n h)
@[go_sem] theorem frozen?_more (n i : Nat) (h : n < w.heap.size) : (more w X d).frozen? ⟨n, i, none⟩ = w.frozen? ⟨n, i, none⟩ :=
  World.frozen?_of_block (w := w) (heap_more n h)
@[go_sem] theorem setCell_more (n i : Nat) (v : Value) (h : n < w.heap.size) : (more w X d).setCell ⟨n, i, none⟩ v = more (w.setCell ⟨n, i, none⟩ v) X d := by
  simp only [World.setCell, more]
  rw [modify_append h]
@[go_sem] theorem drew_more : (more w X d).drew = more w X (d + 1) := rfl
@[go_sem] theorem more_drew : more w.drew X d = more w X d := rfl
@[go_sem] theorem more_more {Y : Array Obj} {e : Nat} : more (more w X d) Y e = more w (X ++ Y) e := by simp [more]
@[go_sem] theorem lt_add_more (a b c : Nat) (h : a < b) : a < b + c := Nat.lt_add_right c h
end
theorem Below.more {B : Nat} {a w : World} (h : Below B a w) (hB : B ≤ w.heap.size) (X : Array Obj) (n : Nat) : Below B a (more w X n) :=
  ⟨h.os, h.tape, h.output, Nat.le_trans h.size (by simp), fun k hk => (heap_more k (Nat.lt_of_lt_of_le hk hB)).trans (h.block k hk)⟩
/-- What leaves all old blocks alone has only laid more behind them. -/
theorem Below.ext {w w' : World} (h : Below w.heap.size w w') : ∃ X n, w' = Go.Proofs.YtdkjiafdfenbkaaDoor.more w X n := by
  refine ⟨w'.heap.extract w.heap.size w'.heap.size, w'.drawn, ?_⟩
  obtain ⟨h1, h2, h3, h4, h5⟩ := h
  have e : w'.heap = w.heap ++ w'.heap.extract w.heap.size w'.heap.size := by
    apply Array.ext_getElem?
    intro k
    by_cases hk : k < w.heap.size
    · rw [h5 k hk, Array.getElem?_append_left hk]
    · rw [Array.getElem?_append_right (by omega), Array.getElem?_extract]
      split
      · congr 1; omega
      · rw [Array.getElem?_eq_none (by omega)]
  unfold Go.Proofs.YtdkjiafdfenbkaaDoor.more
  rw [← e]
  cases w; cases w'
  simp only at h1 h2 h3
  subst h1 h2 h3
  rfl
theorem more_none (w : World) (n : Nat) : more w #[] n = { w with drawn := n } := by simp [more]
/-- What lies behind a world. -/
structure Tail where
  X : Array Obj
  d : Nat
instance : Nonempty Tail := ⟨⟨#[], 0⟩⟩
theorem ext_below {P : Program} {f : FuncId} {args : Array Value} {w : World} {X : Array Obj} {n : Nat} {v : Value} (h : Calls P f args (more w X n) fun e w' => e = .returned v ∧ Below (more w X n).heap.size (more w X n) w') :
    Calls P f args (more w X n) fun e w' => e = .returned v ∧ ∃ z : Tail, w' = more w z.X z.d :=
  h.mono fun _ _ ⟨he, hb⟩ => ⟨he, by obtain ⟨Y, m, rfl⟩ := Below.ext hb; exact ⟨⟨X ++ Y, m⟩, more_more⟩⟩
theorem ext_same {P : Program} {f : FuncId} {args : Array Value} {w : World} {X : Array Obj} {n : Nat} {v : Value} (h : Calls P f args (more w X n) fun e w' => e = .returned v ∧ more w X n = w') :
    Calls P f args (more w X n) fun e w' => e = .returned v ∧ ∃ z : Tail, w' = more w z.X z.d :=
  h.mono fun _ _ ⟨he, hb⟩ => ⟨he, ⟨X, n⟩, hb.symm⟩
/-- A region that draws its order, reads old memory and calls what leaves old memory alone: one walk in the text's order. -/
theorem region_q {P : Program} {id : Nat} {Q : Exit → Act → World → Prop} {a : Act} {w : World} {l : List Oper} (hm : P.follows .mixedOrders = true) (hB : Region.lexB .any l.toArray = true)
    (h : wpQuiet P l.toArray (fun w' => ∃ z : Tail, w' = more w z.X z.d) (fun a' => ∀ X n, Q .normal a' (more w X n)) l a) : (Code.region id l.toArray true).wp P Q a w :=
  wp_region_quiet (C := fun w' => ∃ z : Tail, w' = more w z.X z.d) hm hB ⟨⟨#[], w.drawn + 1⟩, (more_none w _).symm⟩ (by
    have e : (fun a' => ∀ w', (∃ z : Tail, w' = more w z.X z.d) → Q .normal a' w') = fun a' => ∀ X n, Q .normal a' (more w X n) := by
      funext a'; exact propext ⟨fun h X n => h _ ⟨⟨X, n⟩, rfl⟩, fun h w' ⟨z, e⟩ => e ▸ h z.X z.d⟩
    rw [e]; simpa only [List.toList_toArray] using h)
/-- .. with a tail in one order. -/
theorem region_qt {P : Program} {id : Nat} {Q : Exit → Act → World → Prop} {a : Act} {w : World} {l : List Oper} (n : Nat) (hm : P.follows .mixedOrders = true) (hB : Region.lexTailB .any l.toArray n = true)
    (h : wpQuiet P l.toArray (fun w' => ∃ z : Tail, w' = more w z.X z.d) (fun a' => ∀ X d, wpList P l.toArray Q (l.drop n) a' (more w X d)) (l.take n) a) : (Code.region id l.toArray true).wp P Q a w :=
  region_quiet_tail (C := fun w' => ∃ z : Tail, w' = more w z.X z.d) n hm hB ⟨⟨#[], w.drawn + 1⟩, (more_none w _).symm⟩ (by
    have e : (fun a' => ∀ w', (∃ z : Tail, w' = more w z.X z.d) → wpList P l.toArray Q (l.drop n) a' w') = fun a' => ∀ X d, wpList P l.toArray Q (l.drop n) a' (more w X d) := by
      funext a'; exact propext ⟨fun h X d => h _ ⟨⟨X, d⟩, rfl⟩, fun h w' ⟨z, e⟩ => e ▸ h z.X z.d⟩
    rw [e]; exact h)
/-- The same two where the world has more blocks behind it already. -/
theorem region_q2 {P : Program} {id : Nat} {Q : Exit → Act → World → Prop} {a : Act} {w : World} {X0 : Array Obj} {d0 : Nat} {l : List Oper} (hm : P.follows .mixedOrders = true) (hB : Region.lexB .any l.toArray = true)
    (h : wpQuiet P l.toArray (fun w' => ∃ z : Tail, w' = more w z.X z.d) (fun a' => ∀ X n, Q .normal a' (more w X n)) l a) : (Code.region id l.toArray true).wp P Q a (more w X0 d0) :=
  wp_region_quiet (C := fun w' => ∃ z : Tail, w' = more w z.X z.d) hm hB ⟨⟨X0, d0 + 1⟩, rfl⟩ (by
    have e : (fun a' => ∀ w', (∃ z : Tail, w' = more w z.X z.d) → Q .normal a' w') = fun a' => ∀ X n, Q .normal a' (more w X n) := by
      funext a'; exact propext ⟨fun h X n => h _ ⟨⟨X, n⟩, rfl⟩, fun h w' ⟨z, e⟩ => e ▸ h z.X z.d⟩
    rw [e]; simpa only [List.toList_toArray] using h)
theorem region_qt2 {P : Program} {id : Nat} {Q : Exit → Act → World → Prop} {a : Act} {w : World} {X0 : Array Obj} {d0 : Nat} {l : List Oper} (n : Nat) (hm : P.follows .mixedOrders = true) (hB : Region.lexTailB .any l.toArray n = true)
    (h : wpQuiet P l.toArray (fun w' => ∃ z : Tail, w' = more w z.X z.d) (fun a' => ∀ X d, wpList P l.toArray Q (l.drop n) a' (more w X d)) (l.take n) a) : (Code.region id l.toArray true).wp P Q a (more w X0 d0) :=
  region_quiet_tail (C := fun w' => ∃ z : Tail, w' = more w z.X z.d) n hm hB ⟨⟨X0, d0 + 1⟩, rfl⟩ (by
    have e : (fun a' => ∀ w', (∃ z : Tail, w' = more w z.X z.d) → wpList P l.toArray Q (l.drop n) a' w') = fun a' => ∀ X d, wpList P l.toArray Q (l.drop n) a' (more w X d) := by
      funext a'; exact propext ⟨fun h X d => h _ ⟨⟨X, d⟩, rfl⟩, fun h w' ⟨z, e⟩ => e ▸ h z.X z.d⟩
    rw [e]; exact h)
/-- A region that draws its order, whose last operations come in one order: the reads and quiet calls in the text's order, then the rest. -/
theorem region_tail {P : Program} {id : Nat} {Q : Exit → Act → World → Prop} {a : Act} {w : World} {l : List Oper} (n : Nat) (hm : P.follows .mixedOrders = true) (hB : Region.lexTailB .any l.toArray n = true)
    (h : wpStill P l.toArray w.drew (fun a' => wpList P l.toArray Q (l.drop n) a' w.drew) (l.take n) a) : (Code.region id l.toArray true).wp P Q a w :=
  wp_region_still_tail n hm hB h
/-- Is n from lo to hi? -/
def inB (n lo hi : Int) : Bool := decide (lo ≤ n ∧ n ≤ hi)
theorem inB_true {n lo hi : Int} : inB n lo hi = true ↔ lo ≤ n ∧ n ≤ hi := by simp [inB]
theorem inB_false {n lo hi : Int} : inB n lo hi = false ↔ ¬ (lo ≤ n ∧ n ≤ hi) := by simp [inB]

theorem ret_bool {a b : Bool} (h : a = b) : Ending.returned (.bool a) = .returned (.bool b) := by rw [h]
theorem ret_int {k : IntKind} {a b : Int} (h : a = b) : Ending.returned (.int k a) = .returned (.int k b) := by rw [h]
theorem within_c (n lo hi : Int) (w : World) :
    Calls Tryd.prog 47 #[.int .i64 n, .int .i64 lo, .int .i64 hi] w fun e w' => e = .returned (.bool (inB n lo hi)) ∧ w = w' := by
  go_enter Tryd.func47, Tryd.ntmps47
  go_wp2
  all_goals (go_ret; refine ⟨ret_bool ?_, rfl⟩; symm; simp [inB]; omega)
theorem l01In_c (n lo hi : Int) (w : World) :
    Calls Tryd.prog 52 #[.int .i64 n, .int .i64 lo, .int .i64 hi] w fun e w' => e = .returned (.bool (inB n lo hi)) ∧ w = w' := by
  go_enter Tryd.func52, Tryd.ntmps52
  go_wp2
  all_goals (go_ret; refine ⟨ret_bool ?_, rfl⟩; symm; simp [inB]; omega)
end Go.Proofs.YtdkjiafdfenbkaaDoor
