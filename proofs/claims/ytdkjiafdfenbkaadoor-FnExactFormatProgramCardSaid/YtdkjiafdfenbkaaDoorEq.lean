/- Equality of flat values, part by part. -/
import Derived.Test.YtdkjiafdfenbkaaDoorRows
import Derived.WalkKit
import Derived.Laws.StructEq
namespace Go.Proofs.YtdkjiafdfenbkaaDoor
open Go.RowKit
section
variable {P : Program} {w : World} {d : Nat} {xs ys : Array Value}
theorem run_part_leaf {t : TypeId} {off : Nat} {v : Value} (hag : (isAgg t).run P w = .ok false w) (hx : xs[off]? = some v) : (part t xs off).run P w = .ok v w := by
  simp [part, go_sem, hag, hx]
theorem run_part_agg {t : TypeId} {off n : Nat} (hag : (isAgg t).run P w = .ok true w) (hs : (sizeOf t).run P w = .ok n w) : (part t xs off).run P w = .ok (.agg (xs.extract off (off + n))) w := by
  simp [part, go_sem, hag, hs]
theorem eqFields_nil : (Op.eqFields d xs ys []).run P w = .ok true w := by simp [Op.eqFields]
theorem eqFields_cons {f : Field} {fs : List Field} {a b : Value} {r r' : Bool} (hn : f.name ≠ "_") (ha : (part f.type xs f.offset).run P w = .ok a w) (hb : (part f.type ys f.offset).run P w = .ok b w)
    (he : (Op.equalIn d f.type a b).run P w = .ok r w) (hr : (Op.eqFields d xs ys fs).run P w = .ok r' w) : (Op.eqFields d xs ys (f :: fs)).run P w = .ok (r && r') w := by
  rw [Op.eqFields, if_pos hn]
  simp only [Sem.run_bind, ha, hb, he, hr, Result.andThen_ok, Sem.run_ite, Sem.run_pure]
  cases r <;> simp
def eqElems (d : Nat) (e n : Nat) (xs ys : Array Value) : List Nat → Sem Bool
  | [] => pure true
  | i :: is => do
      let a ← part e xs (i * n)
      let b ← part e ys (i * n)
      let r ← Op.equalIn d e a b
      if (!r) = true then pure false else eqElems d e n xs ys is
theorem run_equalIn_array {t e : TypeId} {len n : Nat} (ht : P.underlying t = some (.array len e)) (hs : (sizeOf e).run P w = .ok n w) :
    (Op.equalIn (d + 1) t (.agg xs) (.agg ys)).run P w = (eqElems d e n xs ys (List.range' 0 len)).run P w := by
  simp only [Op.equalIn, Sem.run_bind, run_underlying ht, Result.andThen_ok, hs]
  rw [Std.Legacy.Range.forIn_eq_forIn_range']
  simp only [Std.Legacy.Range.size, Nat.sub_zero, Nat.add_sub_cancel, Nat.div_one]
  generalize List.range' 0 len = is
  clear ht hs
  induction is generalizing w with
  | nil => simp [eqElems]
  | cons i is ih =>
    simp only [List.forIn_cons, eqElems, Sem.run_bind, Sem.run_ite]
    generalize (part e xs (i * n)).run P w = r1
    cases r1 with
    | ok a w1 =>
      simp only [Result.andThen_ok]
      generalize (part e ys (i * n)).run P w1 = r2
      cases r2 with
      | ok b w2 =>
        simp only [Result.andThen_ok]
        generalize (Op.equalIn d e a b).run P w2 = r3
        cases r3 with
        | ok r w3 =>
          cases r
          · simp only [Result.andThen_ok, Bool.not_false, if_true, Sem.run_pure]
          · simp only [Result.andThen_ok, Bool.not_true, Bool.false_eq_true, if_false, Sem.run_pure]
            exact ih
        | halt x w3 => simp [Result.andThen]
      | halt x w2 => simp [Result.andThen]
    | halt x w1 => simp [Result.andThen]
theorem eqElems_nil {e n : Nat} : (eqElems d e n xs ys []).run P w = .ok true w := by simp [eqElems]
theorem eqElems_cons {e n i : Nat} {is : List Nat} {a b : Value} {r r' : Bool} (ha : (part e xs (i * n)).run P w = .ok a w) (hb : (part e ys (i * n)).run P w = .ok b w)
    (he : (Op.equalIn d e a b).run P w = .ok r w) (hr : (eqElems d e n xs ys is).run P w = .ok r' w) : (eqElems d e n xs ys (i :: is)).run P w = .ok (r && r') w := by
  rw [eqElems]
  simp only [Sem.run_bind, ha, hb, he, hr, Result.andThen_ok, Sem.run_ite, Sem.run_pure]
  cases r <;> simp
end
def vecEq (x y z x' y' z' : Int) : Bool := x == x' && (y == y' && (z == z' && true))
theorem equal_vec {d : Nat} (x y z x' y' z' : Int) (w : World) : (Op.equalIn (d + 2) 41 (.agg #[.int .i64 x, .int .i64 y, .int .i64 z]) (.agg #[.int .i64 x', .int .i64 y', .int .i64 z'])).run Tryd.prog w = .ok (vecEq x y z x' y' z') w := by
  rw [run_equalIn_struct _ _ _ _ _ (by simp [Program.fieldsOf, Tryd.underlying41]) (by kernel_rfl)]
  simp only [Program.fieldsOf, Tryd.underlying41]
  have hag : (isAgg 3).run Tryd.prog w = .ok false w := by kernel_rfl
  refine eqFields_cons (by simp) (run_part_leaf hag rfl) (run_part_leaf hag rfl) (run_equalIn_int _ _ _ _ _ _ _ Tryd.underlying3) ?_
  refine eqFields_cons (by simp) (run_part_leaf hag rfl) (run_part_leaf hag rfl) (run_equalIn_int _ _ _ _ _ _ _ Tryd.underlying3) ?_
  refine eqFields_cons (by simp) (run_part_leaf hag rfl) (run_part_leaf hag rfl) (run_equalIn_int _ _ _ _ _ _ _ Tryd.underlying3) ?_
  exact eqFields_nil
@[go_sem ↓ high] theorem run_eql_vec (x y z x' y' z' : Int) (w : World) : (binOp .eql 41 (.agg #[.int .i64 x, .int .i64 y, .int .i64 z]) (.agg #[.int .i64 x', .int .i64 y', .int .i64 z'])).run Tryd.prog w = .ok (.bool (vecEq x y z x' y' z')) w := by
  rw [run_eql_struct, equal_vec (d := 9998)]
  rfl
@[go_sem ↓ high] theorem run_neq_vec (x y z x' y' z' : Int) (w : World) : (binOp .neq 41 (.agg #[.int .i64 x, .int .i64 y, .int .i64 z]) (.agg #[.int .i64 x', .int .i64 y', .int .i64 z'])).run Tryd.prog w = .ok (.bool (!vecEq x y z x' y' z')) w := by
  rw [run_neq_struct, equal_vec (d := 9998)]
  rfl
theorem vecEq_iff {x y z x' y' z' : Int} : vecEq x y z x' y' z' = true ↔ x = x' ∧ y = y' ∧ z = z' := by simp [vecEq]
theorem vecEq_self (x y z : Int) : vecEq x y z x y z = true := by simp [vecEq]
@[go_sem ↓ high] theorem guard_vec (op : BinOp) (x y : Operand) (xs ys : Array Value) (w : World) : (eqGuard op 41 x y (.agg xs) (.agg ys)).run Tryd.prog w = .ok () w := run_eqGuard_agg w op _ x y xs ys (by kernel_rfl)
def asgEqB (s t : ByteArray) (a b : Int) : Bool := (s.toList == t.toList) && ((a == b) && true)
theorem equal_asg {d : Nat} (s t : ByteArray) (a b : Int) (w : World) : (Op.equalIn (d + 2) 104 (.agg #[.string s, .int .i64 a]) (.agg #[.string t, .int .i64 b])).run Tryd.prog w = .ok (asgEqB s t a b) w := by
  rw [run_equalIn_struct _ _ _ _ _ (by simp [Program.fieldsOf, Tryd.underlying104]) (by kernel_rfl)]
  simp only [Program.fieldsOf, Tryd.underlying104]
  have hag : (isAgg 3).run Tryd.prog w = .ok false w := by kernel_rfl
  have has : (isAgg 9).run Tryd.prog w = .ok false w := by kernel_rfl
  refine eqFields_cons (by simp) (run_part_leaf has rfl) (run_part_leaf has rfl) (run_equalIn_string _ _ _ _ _ Tryd.underlying9) ?_
  refine eqFields_cons (by simp) (run_part_leaf hag rfl) (run_part_leaf hag rfl) (run_equalIn_int _ _ _ _ _ _ _ Tryd.underlying3) ?_
  exact eqFields_nil
@[go_sem ↓ high] theorem run_eql_asg (s t : ByteArray) (a b : Int) (w : World) : (binOp .eql 104 (.agg #[.string s, .int .i64 a]) (.agg #[.string t, .int .i64 b])).run Tryd.prog w = .ok (.bool (asgEqB s t a b)) w := by
  rw [run_eql_struct, equal_asg (d := 9998)]
  rfl
@[go_sem ↓ high] theorem run_neq_asg (s t : ByteArray) (a b : Int) (w : World) : (binOp .neq 104 (.agg #[.string s, .int .i64 a]) (.agg #[.string t, .int .i64 b])).run Tryd.prog w = .ok (.bool (!asgEqB s t a b)) w := by
  rw [run_neq_struct, equal_asg (d := 9998)]
  rfl
@[go_sem ↓ high] theorem guard_asg (op : BinOp) (x y : Operand) (xs ys : Array Value) (w : World) : (eqGuard op 104 x y (.agg xs) (.agg ys)).run Tryd.prog w = .ok () w := run_eqGuard_agg w op _ x y xs ys (by kernel_rfl)
end Go.Proofs.YtdkjiafdfenbkaaDoor
