/- Base, with Quiet, Eq ahead of it. -/
import Derived.Test.YtpfmcobkfofbjaaRows
import Derived.WalkKit
import Derived.Deep.Quiet
import Derived.StillTail
import Derived.Laws.StructEq
import Derived.Test.YtpfmcobkfofbjaaMath
import Derived.WalkSpells
import Derived.WalkLawsBesides
import Derived.Outline
import Derived.Below
import Derived.Lib.Hide
import Derived.Handy
import Derived.LoopTactic
import Derived.StillTailTactics
import Derived.Deep.QuietTactic
import Derived.BigQuiet
import Derived.Deep.RegionWith
namespace Go.Proofs.Ytpfmcobkfofbjaa
open Go
section
variable {P : Program} {ops : Array Oper} {md : Region.Mode} {C : World → Prop}
/-- Whatever order the first operations come up in: all of them quiet, and L at the end. -/
def headQ (P : Program) (md : Region.Mode) (ops : Array Oper) (C : World → Prop) (n : Nat) (L : Array Bool → Act → Prop) : Nat → Array Bool → Act → Prop
  | 0, listed, a => L listed a
  | f + 1, listed, a => Region.ready md ops listed ≠ [] ∧ ∀ i ∈ Region.ready md ops listed, i < n ∧ qOp P ops C i (headQ P md ops C n L f (listed.setIfInBounds i true)) a
theorem wpAny_of_headQ {n g : Nat} {L : Array Bool → Act → Prop} {Q' : Exit → Act → World → Prop} (hL : ∀ listed a w, C w → L listed a → wpAny P md ops Q' g listed a w) (f : Nat) :
    ∀ (listed : Array Bool) (a : Act) (w : World), C w → headQ P md ops C n L f listed a → wpAny P md ops Q' (f + g) listed a w := by
  induction f with
  | zero => intro listed a w hw h; rw [Nat.zero_add]; exact hL _ _ _ hw h
  | succ f ih =>
    intro listed a w hw h
    have e : f + 1 + g = (f + g) + 1 := by omega
    rw [e]
    exact ⟨fun h0 => (h.1 h0).elim, fun i hi => wpOp_of_qOp hw (fun a' w' hw' h' => ih _ a' w' hw' h') (h.2 i hi).2⟩
/-- One step of the head may be taken first. -/
theorem headQ_first {n i : Nat} {oi : Oper} {v : Value} {L : Array Bool → Act → Prop} (hi : ops[i]? = some oi) (hsel : ∀ (j : Nat) (o : Oper) cs b, ops[j]? = some o → o.op ≠ .select cs b)
    (hs : Region.sinkB md ops n = true) (hc : Region.chainB md ops n = true) (hn : n < ops.size) (hin : i < n) (hdone : ∀ listed a, L listed a → ∀ j ∈ Region.ready md ops listed, n ≤ j) (f : Nat) :
    ∀ (listed : Array Bool) (a : Act), HeadInv md ops n listed →
      (∀ j oj, ops[j]? = some oj → j ≠ i → listed.getD j true = false → (∀ e ∈ oj.after, Region.binds md e = true → e.on ≠ i) → oi.apart ops oj = true) →
      i ∈ Region.ready md ops listed → YieldsIn P ops C oi v a →
      headQ P md ops C n L f (listed.setIfInBounds i true) (a.put oi.dst v) → headQ P md ops C n L (f + 1) listed a := by
  have low : ∀ (listed : Array Bool), HeadInv md ops n listed → i ∈ Region.ready md ops listed → ∀ j ∈ Region.ready md ops listed, j < n := fun listed inv hr j hj => by
    by_cases h : j < n
    · exact h
    · exact absurd hj (tail_waits hs hc hn inv _ i rfl hin (mem_ready.1 hr).1 j (by omega))
  induction f with
  | zero =>
    intro listed a inv _ hr hy H
    refine ⟨List.ne_nil_of_mem hr, fun j hj => ⟨low listed inv hr j hj, ?_⟩⟩
    by_cases hji : j = i
    · subst hji; exact hy.qOp hi H
    · have h1 := hdone _ _ H j (ready_mono hj hji)
      have h2 := low listed inv hr j hj
      omega
  | succ f ih =>
    intro listed a inv hfree hr hy H
    refine ⟨List.ne_nil_of_mem hr, fun j hj => ⟨low listed inv hr j hj, ?_⟩⟩
    by_cases hji : j = i
    · subst hji; exact hy.qOp hi H
    obtain ⟨hjun, oj, hoj, hall⟩ := mem_ready.1 hj
    have hnot : ∀ e ∈ oj.after, Region.binds md e = true → e.on ≠ i := fun e he hb heq => by
      have h1 := hall e he hb
      rw [heq, getD_both (mem_ready.1 hr).1] at h1
      cases h1
    have h2 := qOp_put hoj (hfree j oj hoj hji hjun hnot) (fun cs b => hsel i oi cs b hi) (fun cs b => hsel j oj cs b hoj) hy (H.2 j (ready_mono hj hji)).2
    refine qOp_mono (fun a' h3 => ih _ a' (inv.set hj (low listed inv hr j hj)) (fun k ok hk hki hun hno => ?_) (ready_mono hr (Ne.symm hji)) h3.1 ?_) h2
    · refine hfree k ok hk hki ?_ hno
      by_cases hjk : j = k
      · subst hjk; exact hjun
      · rwa [getD_set_ne true hjk] at hun
    · rw [Array.setIfInBounds_comm _ _ hji]; exact h3.2
theorem headQ_lex {n g : Nat} {Lq : Act → Prop} (hsel : Region.noSelect ops = true) (hs : Region.sinkB md ops n = true) (hc : Region.chainB md ops n = true) (hn : n < ops.size) (l : List Oper) :
    ∀ (k : Nat) (listed : Array Bool) (a : Act), (∀ j, j < l.length → l[j]? = ops[k + j]?) → k + l.length = n → HeadInv md ops n listed →
    Region.lexHead md ops g l.length k listed = true → wpQuiet P ops C Lq l a → headQ P md ops C n (fun listed' a' => Region.seqB md ops g n listed' = true ∧ Lq a') l.length listed a := by
  induction l with
  | nil =>
    intro k listed a _ hk _ hB h
    obtain rfl : k = n := by simpa using hk
    exact ⟨by simpa [Region.lexHead] using hB, h⟩
  | cons o l ih =>
    intro k listed a hl hk inv hB h
    have h0 : ops[k]? = some o := by simpa using (hl 0 (by simp)).symm
    simp only [List.length_cons, Region.lexHead, Bool.and_eq_true] at hB
    have hkn : k < n := by simp only [List.length_cons] at hk; omega
    have hr' : k ∈ Region.ready md ops listed := by simpa using hB.1.1
    have hst : qOp P ops C k (wpQuiet P ops C Lq l) a := by unfold qOp; simp only [h0]; exact h
    obtain ⟨v, hy, hK⟩ := yieldsIn_of_qOp h0 hst
    refine headQ_first h0 (Region.noSelect_spec hsel) hs hc hn hkn (fun _ _ hL => seqB_ready hL.1) l.length listed a inv (Region.free_spec h0 hB.1.2) hr' hy (ih (k + 1) _ _ (fun j hj => ?_) ?_ (inv.set hr' hkn) hB.2 hK)
    · have := hl (j + 1) (by simp; omega)
      simpa [Nat.add_assoc, Nat.add_comm 1 j] using this
    · simp only [List.length_cons] at hk; omega
/-- The head of a region quiet in the class C, the tail in one order. -/
theorem region_quiet_tail {id : Nat} {Q : Exit → Act → World → Prop} {a : Act} {w : World} {l : List Oper} (n : Nat) (hm : P.follows .mixedOrders = true) (hB : Region.lexTailB .any l.toArray n = true) (hC : C w.drew)
    (h : wpQuiet P l.toArray C (fun a' => ∀ w', C w' → wpList P l.toArray Q (l.drop n) a' w') (l.take n) a) : (Code.region id l.toArray true).wp P Q a w := by
  simp only [Region.lexTailB, Bool.and_eq_true, decide_eq_true_eq] at hB
  obtain ⟨⟨⟨⟨hsel, hn⟩, hs⟩, hc⟩, hlex⟩ := hB
  have hn' : n < l.length := by simpa using hn
  have htl : (l.take n).length = n := by simp; omega
  have hdl : (l.drop n).length = l.toArray.size - n := by simp
  have inv0 : HeadInv .any l.toArray n (Array.replicate l.toArray.size false) :=
    ⟨by simp, fun j oj _ hl => (by rw [getD_replicate_false] at hl; cases hl), fun t _ ht => getD_in (by simpa using ht) (getD_replicate_false _ _)⟩
  have H := headQ_lex (md := .any) (g := l.toArray.size - n) hsel hs hc hn (l.take n) 0 _ a (fun j hj => by
    have hj' : j < n := by rw [htl] at hj; exact hj
    simp [hj']) (by simpa using htl) inv0 (by rw [htl]; exact hlex) h
  refine wp_region_any hm ?_
  have K := wpAny_of_headQ (Q' := Q) (g := l.toArray.size - n) (fun listed a' w' hw' hL => by
    have := wpAny_of_seq (md := .any) (Q' := Q) (l.drop n) n listed a' w' (fun j => by simp [List.getElem?_drop]) (by rw [hdl]; exact hL.1) (hL.2 w' hw')
    rwa [hdl] at this) _ _ _ _ hC H
  rw [htl, show n + (l.toArray.size - n) = l.toArray.size by omega] at K
  exact K
end
end Go.Proofs.Ytpfmcobkfofbjaa
namespace Go.Proofs.Ytpfmcobkfofbjaa
open Go.RowKit
section
variable {P : Program} {w : World} {d : Nat} {xs ys : Array Value}
theorem run_part_leaf {t : TypeId} {off : Nat} {v : Value} (hag : (isAgg t).run P w = .ok false w) (hx : xs[off]? = some v) : (part t xs off).run P w = .ok v w := by
  simp [part, go_sem, hag, hx]
theorem run_part_agg {t : TypeId} {off n : Nat} (hag : (isAgg t).run P w = .ok true w) (hs : (sizeOf t).run P w = .ok n w) : (part t xs off).run P w = .ok (.agg (xs.extract off (off + n))) w := by
  simp [part, go_sem, hag, hs]
theorem eqFields_nil : (Op.eqFields d xs ys []).run P w = .ok true w := by simp [Op.eqFields]
theorem eqFields_cons {f : Field} {fs : List Field} {a b : Value} {r r' : Bool} (hn : f.name ≠ "_") (ha : (part f.type xs f.offset).run P w = .ok a w) (hb : (part f.type ys f.offset).run P w = .ok b w)
    (he : (Op.equalIn d f.type a b).run P w = .ok r w) (hr : (Op.eqFields d xs ys fs).run P w = .ok r' w) : (Op.eqFields d xs ys (f :: fs)).run P w = .ok (r && r') w := by
  rw [Op.eqFields, if_pos hn]
  simp only [Sem.run_bind, ha, hb, he, hr, Result.andThen_ok, Sem.run_ite, Sem.run_pure]
  cases r <;> simp
def eqElems (d : Nat) (e n : Nat) (xs ys : Array Value) : List Nat → Sem Bool
  | [] => pure true
  | i :: is => do
      let a ← part e xs (i * n)
      let b ← part e ys (i * n)
      let r ← Op.equalIn d e a b
      if (!r) = true then pure false else eqElems d e n xs ys is
theorem run_equalIn_array {t e : TypeId} {len n : Nat} (ht : P.underlying t = some (.array len e)) (hs : (sizeOf e).run P w = .ok n w) :
    (Op.equalIn (d + 1) t (.agg xs) (.agg ys)).run P w = (eqElems d e n xs ys (List.range' 0 len)).run P w := by
  simp only [Op.equalIn, Sem.run_bind, run_underlying ht, Result.andThen_ok, hs]
  rw [Std.Legacy.Range.forIn_eq_forIn_range']
  simp only [Std.Legacy.Range.size, Nat.sub_zero, Nat.add_sub_cancel, Nat.div_one]
  generalize List.range' 0 len = is
  clear ht hs
  induction is generalizing w with
  | nil => simp [eqElems]
  | cons i is ih =>
    simp only [List.forIn_cons, eqElems, Sem.run_bind, Sem.run_ite]
    generalize (part e xs (i * n)).run P w = r1
    cases r1 with
    | ok a w1 =>
      simp only [Result.andThen_ok]
      generalize (part e ys (i * n)).run P w1 = r2
      cases r2 with
      | ok b w2 =>
        simp only [Result.andThen_ok]
        generalize (Op.equalIn d e a b).run P w2 = r3
        cases r3 with
        | ok r w3 =>
          cases r
          · simp only [Result.andThen_ok, Bool.not_false, if_true, Sem.run_pure]
          · simp only [Result.andThen_ok, Bool.not_true, Bool.false_eq_true, if_false, Sem.run_pure]
            exact ih
        | halt x w3 => simp [Result.andThen]
      | halt x w2 => simp [Result.andThen]
    | halt x w1 => simp [Result.andThen]
theorem eqElems_nil {e n : Nat} : (eqElems d e n xs ys []).run P w = .ok true w := by simp [eqElems]
theorem eqElems_cons {e n i : Nat} {is : List Nat} {a b : Value} {r r' : Bool} (ha : (part e xs (i * n)).run P w = .ok a w) (hb : (part e ys (i * n)).run P w = .ok b w)
    (he : (Op.equalIn d e a b).run P w = .ok r w) (hr : (eqElems d e n xs ys is).run P w = .ok r' w) : (eqElems d e n xs ys (i :: is)).run P w = .ok (r && r') w := by
  rw [eqElems]
  simp only [Sem.run_bind, ha, hb, he, hr, Result.andThen_ok, Sem.run_ite, Sem.run_pure]
  cases r <;> simp
end
def vecEq (x y z x' y' z' : Int) : Bool := x == x' && (y == y' && (z == z' && true))
theorem equal_vec {d : Nat} (x y z x' y' z' : Int) (w : World) : (Op.equalIn (d + 2) 29 (.agg #[.int .i64 x, .int .i64 y, .int .i64 z]) (.agg #[.int .i64 x', .int .i64 y', .int .i64 z'])).run Try.prog w = .ok (vecEq x y z x' y' z') w := by
  rw [run_equalIn_struct _ _ _ _ _ (by simp [Program.fieldsOf, Try.underlying29]) (by kernel_rfl)]
  simp only [Program.fieldsOf, Try.underlying29]
  have hag : (isAgg 3).run Try.prog w = .ok false w := by kernel_rfl
  refine eqFields_cons (by simp) (run_part_leaf hag rfl) (run_part_leaf hag rfl) (run_equalIn_int _ _ _ _ _ _ _ Try.underlying3) ?_
  refine eqFields_cons (by simp) (run_part_leaf hag rfl) (run_part_leaf hag rfl) (run_equalIn_int _ _ _ _ _ _ _ Try.underlying3) ?_
  refine eqFields_cons (by simp) (run_part_leaf hag rfl) (run_part_leaf hag rfl) (run_equalIn_int _ _ _ _ _ _ _ Try.underlying3) ?_
  exact eqFields_nil
@[go_sem ↓ high] theorem run_eql_vec (x y z x' y' z' : Int) (w : World) : (binOp .eql 29 (.agg #[.int .i64 x, .int .i64 y, .int .i64 z]) (.agg #[.int .i64 x', .int .i64 y', .int .i64 z'])).run Try.prog w = .ok (.bool (vecEq x y z x' y' z')) w := by
  rw [run_eql_struct, equal_vec (d := 9998)]
  rfl
@[go_sem ↓ high] theorem run_neq_vec (x y z x' y' z' : Int) (w : World) : (binOp .neq 29 (.agg #[.int .i64 x, .int .i64 y, .int .i64 z]) (.agg #[.int .i64 x', .int .i64 y', .int .i64 z'])).run Try.prog w = .ok (.bool (!vecEq x y z x' y' z')) w := by
  rw [run_neq_struct, equal_vec (d := 9998)]
  rfl
theorem vecEq_iff {x y z x' y' z' : Int} : vecEq x y z x' y' z' = true ↔ x = x' ∧ y = y' ∧ z = z' := by simp [vecEq]
theorem vecEq_self (x y z : Int) : vecEq x y z x y z = true := by simp [vecEq]
@[go_sem ↓ high] theorem guard_vec (op : BinOp) (x y : Operand) (xs ys : Array Value) (w : World) : (eqGuard op 29 x y (.agg xs) (.agg ys)).run Try.prog w = .ok () w := run_eqGuard_agg w op _ x y xs ys (by kernel_rfl)
end Go.Proofs.Ytpfmcobkfofbjaa
namespace Go.Proofs.Ytpfmcobkfofbjaa
open Go.RowKit

/-- A world with more blocks behind its own, its count of draws set anew: what a call that leaves the old blocks alone comes to. -/
def more (w : World) (X : Array Obj) (n : Nat) : World := { w with heap := w.heap ++ X, drawn := n }
theorem modify_append {α : Type} {A X : Array α} {n : Nat} {f : α → α} (h : n < A.size) : (A ++ X).modify n f = A.modify n f ++ X := by
  apply Array.ext_getElem?
  intro k
  rw [Array.getElem?_modify]
  by_cases hk : k < A.size
  · rw [Array.getElem?_append_left hk, Array.getElem?_append_left (by simpa using hk), Array.getElem?_modify]
  · rw [Array.getElem?_append_right (by omega), Array.getElem?_append_right (by simpa using hk), if_neg (by omega)]
    simp
section
variable {w : World} {X : Array Obj} {d : Nat}
@[simp, go_sem] theorem size_more : (more w X d).heap.size = w.heap.size + X.size := by simp [more]
theorem heap_more (n : Nat) (h : n < w.heap.size) : (more w X d).heap[n]? = w.heap[n]? := by
  simp only [more]
  rw [Array.getElem?_append_left h]
@[go_sem] theorem cell?_more (n i : Nat) (h : n < w.heap.size) : (more w X d).cell? ⟨n, i, none⟩ = w.cell? ⟨n, i, none⟩ :=
  World.cell?_of_block (w := w) (heap_more n h)
@[go_sem] theorem frozen?_more (n i : Nat) (h : n < w.heap.size) : (more w X d).frozen? ⟨n, i, none⟩ = w.frozen? ⟨n, i, none⟩ :=
  World.frozen?_of_block (w := w) (heap_more n h)
@[go_sem] theorem setCell_more (n i : Nat) (v : Value) (h : n < w.heap.size) : (more w X d).setCell ⟨n, i, none⟩ v = more (w.setCell ⟨n, i, none⟩ v) X d := by
  simp only [World.setCell, more]
  rw [modify_append h]
@[go_sem] theorem drew_more : (more w X d).drew = more w X (d + 1) := rfl
@[go_sem] theorem more_drew : more w.drew X d = more w X d := rfl
@[go_sem] theorem more_more {Y : Array Obj} {e : Nat} : more (more w X d) Y e = more w (X ++ Y) e := by simp [more]
@[go_sem] theorem lt_add_more (a b c : Nat) (h : a < b) : a < b + c := Nat.lt_add_right c h
end
theorem Below.more {B : Nat} {a w : World} (h : Below B a w) (hB : B ≤ w.heap.size) (X : Array Obj) (n : Nat) : Below B a (more w X n) :=
  ⟨h.os, h.tape, h.output, Nat.le_trans h.size (by simp), fun k hk => (heap_more k (Nat.lt_of_lt_of_le hk hB)).trans (h.block k hk)⟩
/-- What leaves all old blocks alone has only laid more behind them. -/
theorem Below.ext {w w' : World} (h : Below w.heap.size w w') : ∃ X n, w' = Go.Proofs.Ytpfmcobkfofbjaa.more w X n := by
  refine ⟨w'.heap.extract w.heap.size w'.heap.size, w'.drawn, ?_⟩
  obtain ⟨h1, h2, h3, h4, h5⟩ := h
  have e : w'.heap = w.heap ++ w'.heap.extract w.heap.size w'.heap.size := by
    apply Array.ext_getElem?
    intro k
    by_cases hk : k < w.heap.size
    · rw [h5 k hk, Array.getElem?_append_left hk]
    · rw [Array.getElem?_append_right (by omega), Array.getElem?_extract]
      split
      · congr 1; omega
      · rw [Array.getElem?_eq_none (by omega)]
  unfold Go.Proofs.Ytpfmcobkfofbjaa.more
  rw [← e]
  cases w; cases w'
  simp only at h1 h2 h3
  subst h1 h2 h3
  rfl
theorem more_none (w : World) (n : Nat) : more w #[] n = { w with drawn := n } := by simp [more]
/-- What lies behind a world. -/
structure Tail where
  X : Array Obj
  d : Nat
instance : Nonempty Tail := ⟨⟨#[], 0⟩⟩
theorem ext_below {P : Program} {f : FuncId} {args : Array Value} {w : World} {X : Array Obj} {n : Nat} {v : Value} (h : Calls P f args (more w X n) fun e w' => e = .returned v ∧ Below (more w X n).heap.size (more w X n) w') :
    Calls P f args (more w X n) fun e w' => e = .returned v ∧ ∃ z : Tail, w' = more w z.X z.d :=
  h.mono fun _ _ ⟨he, hb⟩ => ⟨he, by obtain ⟨Y, m, rfl⟩ := Below.ext hb; exact ⟨⟨X ++ Y, m⟩, more_more⟩⟩
theorem ext_same {P : Program} {f : FuncId} {args : Array Value} {w : World} {X : Array Obj} {n : Nat} {v : Value} (h : Calls P f args (more w X n) fun e w' => e = .returned v ∧ more w X n = w') :
    Calls P f args (more w X n) fun e w' => e = .returned v ∧ ∃ z : Tail, w' = more w z.X z.d :=
  h.mono fun _ _ ⟨he, hb⟩ => ⟨he, ⟨X, n⟩, hb.symm⟩
/-- A region that draws its order, reads old memory and calls what leaves old memory alone: one walk in the text's order. -/
theorem region_q {P : Program} {id : Nat} {Q : Exit → Act → World → Prop} {a : Act} {w : World} {l : List Oper} (hm : P.follows .mixedOrders = true) (hB : Region.lexB .any l.toArray = true)
    (h : wpQuiet P l.toArray (fun w' => ∃ z : Tail, w' = more w z.X z.d) (fun a' => ∀ X n, Q .normal a' (more w X n)) l a) : (Code.region id l.toArray true).wp P Q a w :=
  wp_region_quiet (C := fun w' => ∃ z : Tail, w' = more w z.X z.d) hm hB ⟨⟨#[], w.drawn + 1⟩, (more_none w _).symm⟩ (by
    have e : (fun a' => ∀ w', (∃ z : Tail, w' = more w z.X z.d) → Q .normal a' w') = fun a' => ∀ X n, Q .normal a' (more w X n) := by
      funext a'; exact propext ⟨fun h X n => h _ ⟨⟨X, n⟩, rfl⟩, fun h w' ⟨z, e⟩ => e ▸ h z.X z.d⟩
    rw [e]; simpa only [List.toList_toArray] using h)
/-- .. with a tail in one order. -/
theorem region_qt {P : Program} {id : Nat} {Q : Exit → Act → World → Prop} {a : Act} {w : World} {l : List Oper} (n : Nat) (hm : P.follows .mixedOrders = true) (hB : Region.lexTailB .any l.toArray n = true)
    (h : wpQuiet P l.toArray (fun w' => ∃ z : Tail, w' = more w z.X z.d) (fun a' => ∀ X d, wpList P l.toArray Q (l.drop n) a' (more w X d)) (l.take n) a) : (Code.region id l.toArray true).wp P Q a w :=
  region_quiet_tail (C := fun w' => ∃ z : Tail, w' = more w z.X z.d) n hm hB ⟨⟨#[], w.drawn + 1⟩, (more_none w _).symm⟩ (by
    have e : (fun a' => ∀ w', (∃ z : Tail, w' = more w z.X z.d) → wpList P l.toArray Q (l.drop n) a' w') = fun a' => ∀ X d, wpList P l.toArray Q (l.drop n) a' (more w X d) := by
      funext a'; exact propext ⟨fun h X d => h _ ⟨⟨X, d⟩, rfl⟩, fun h w' ⟨z, e⟩ => e ▸ h z.X z.d⟩
    rw [e]; exact h)
/-- The same two where the world has more blocks behind it already. -/
theorem region_q2 {P : Program} {id : Nat} {Q : Exit → Act → World → Prop} {a : Act} {w : World} {X0 : Array Obj} {d0 : Nat} {l : List Oper} (hm : P.follows .mixedOrders = true) (hB : Region.lexB .any l.toArray = true)
    (h : wpQuiet P l.toArray (fun w' => ∃ z : Tail, w' = more w z.X z.d) (fun a' => ∀ X n, Q .normal a' (more w X n)) l a) : (Code.region id l.toArray true).wp P Q a (more w X0 d0) :=
  wp_region_quiet (C := fun w' => ∃ z : Tail, w' = more w z.X z.d) hm hB ⟨⟨X0, d0 + 1⟩, rfl⟩ (by
    have e : (fun a' => ∀ w', (∃ z : Tail, w' = more w z.X z.d) → Q .normal a' w') = fun a' => ∀ X n, Q .normal a' (more w X n) := by
      funext a'; exact propext ⟨fun h X n => h _ ⟨⟨X, n⟩, rfl⟩, fun h w' ⟨z, e⟩ => e ▸ h z.X z.d⟩
    rw [e]; simpa only [List.toList_toArray] using h)
theorem region_qt2 {P : Program} {id : Nat} {Q : Exit → Act → World → Prop} {a : Act} {w : World} {X0 : Array Obj} {d0 : Nat} {l : List Oper} (n : Nat) (hm : P.follows .mixedOrders = true) (hB : Region.lexTailB .any l.toArray n = true)
    (h : wpQuiet P l.toArray (fun w' => ∃ z : Tail, w' = more w z.X z.d) (fun a' => ∀ X d, wpList P l.toArray Q (l.drop n) a' (more w X d)) (l.take n) a) : (Code.region id l.toArray true).wp P Q a (more w X0 d0) :=
  region_quiet_tail (C := fun w' => ∃ z : Tail, w' = more w z.X z.d) n hm hB ⟨⟨X0, d0 + 1⟩, rfl⟩ (by
    have e : (fun a' => ∀ w', (∃ z : Tail, w' = more w z.X z.d) → wpList P l.toArray Q (l.drop n) a' w') = fun a' => ∀ X d, wpList P l.toArray Q (l.drop n) a' (more w X d) := by
      funext a'; exact propext ⟨fun h X d => h _ ⟨⟨X, d⟩, rfl⟩, fun h w' ⟨z, e⟩ => e ▸ h z.X z.d⟩
    rw [e]; exact h)
/-- A region that draws its order, whose last operations come in one order: the reads and quiet calls in the text's order, then the rest. -/
theorem region_tail {P : Program} {id : Nat} {Q : Exit → Act → World → Prop} {a : Act} {w : World} {l : List Oper} (n : Nat) (hm : P.follows .mixedOrders = true) (hB : Region.lexTailB .any l.toArray n = true)
    (h : wpStill P l.toArray w.drew (fun a' => wpList P l.toArray Q (l.drop n) a' w.drew) (l.take n) a) : (Code.region id l.toArray true).wp P Q a w :=
  wp_region_still_tail n hm hB h
/-- Is n from lo to hi? -/
def inB (n lo hi : Int) : Bool := decide (lo ≤ n ∧ n ≤ hi)
theorem inB_true {n lo hi : Int} : inB n lo hi = true ↔ lo ≤ n ∧ n ≤ hi := by simp [inB]
theorem inB_false {n lo hi : Int} : inB n lo hi = false ↔ ¬ (lo ≤ n ∧ n ≤ hi) := by simp [inB]

theorem ret_bool {a b : Bool} (h : a = b) : Ending.returned (.bool a) = .returned (.bool b) := by rw [h]
theorem ret_int {k : IntKind} {a b : Int} (h : a = b) : Ending.returned (.int k a) = .returned (.int k b) := by rw [h]
theorem within_c (n lo hi : Int) (w : World) :
    Calls Try.prog 68 #[.int .i64 n, .int .i64 lo, .int .i64 hi] w fun e w' => e = .returned (.bool (inB n lo hi)) ∧ w = w' := by
  go_enter Try.func68, Try.ntmps68
  go_wp2
  all_goals (go_ret; refine ⟨ret_bool ?_, rfl⟩; symm; simp [inB]; omega)
end Go.Proofs.Ytpfmcobkfofbjaa
