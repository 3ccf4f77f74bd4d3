/- Equality of flat values, part by part. -/
import Derived.Test.YtkdkdejgajcneaaRows
import Derived.WalkKit
import Derived.Laws.StructEq
namespace Go.Proofs.Ytkdkdejgajcneaa
open Go.RowKit
section
variable {P : Program} {w : World} {d : Nat} {xs ys : Array Value}
theorem run_part_leaf {t : TypeId} {off : Nat} {v : Value} (hag : (isAgg t).run P w = .ok false w) (hx : xs[off]? = some v) : (part t xs off).run P w = .ok v w := by
  simp [part, go_sem, hag, hx]
theorem run_part_agg {t : TypeId} {off n : Nat} (hag : (isAgg t).run P w = .ok true w) (hs : (sizeOf t).run P w = .ok n w) : (part t xs off).run P w = .ok (.agg (xs.extract off (off + n))) w := by
  simp [part, go_sem, hag, hs]
theorem eqFields_nil : (Op.eqFields d xs ys []).run P w = .ok true w := by simp [Op.eqFields]
theorem eqFields_cons {f : Field} {fs : List Field} {a b : Value} {r r' : Bool} (hn : f.name ≠ "_") (ha : (part f.type xs f.offset).run P w = .ok a w) (hb : (part f.type ys f.offset).run P w = .ok b w)
    (he : (Op.equalIn d f.type a b).run P w = .ok r w) (hr : (Op.eqFields d xs ys fs).run P w = .ok r' w) : (Op.eqFields d xs ys (f :: fs)).run P w = .ok (r && r') w := by
  rw [Op.eqFields, if_pos hn]
  simp only [Sem.run_bind, ha, hb, he, hr, Result.andThen_ok, Sem.run_ite, Sem.run_pure]
  cases r <;> simp
def eqElems (d : Nat) (e n : Nat) (xs ys : Array Value) : List Nat → Sem Bool
  | [] => pure true
  | i :: is => do
      let a ← part e xs (i * n)
      let b ← part e ys (i * n)
      let r ← Op.equalIn d e a b
      if (!r) = true then pure false else eqElems d e n xs ys is
theorem run_equalIn_array {t e : TypeId} {len n : Nat} (ht : P.underlying t = some (.array len e)) (hs : (sizeOf e).run P w = .ok n w) :
    (Op.equalIn (d + 1) t (.agg xs) (.agg ys)).run P w = (eqElems d e n xs ys (List.range' 0 len)).run P w := by
  simp only [Op.equalIn, Sem.run_bind, run_underlying ht, Result.andThen_ok, hs]
  rw [Std.Legacy.Range.forIn_eq_forIn_range']
  simp only [Std.Legacy.Range.size, Nat.sub_zero, Nat.add_sub_cancel, Nat.div_one]
  generalize List.range' 0 len = is
  clear ht hs
  induction is generalizing w with
  | nil => simp [eqElems]
  | cons i is ih =>
    simp only [List.forIn_cons, eqElems, Sem.run_bind, Sem.run_ite]
    generalize (part e xs (i * n)).run P w = r1
    cases r1 with
    | ok a w1 =>
      simp only [Result.andThen_ok]
      generalize (part e ys (i * n)).run P w1 = r2
      cases r2 with
      | ok b w2 =>
        simp only [Result.andThen_ok]
        generalize (Op.equalIn d e a b).run P w2 = r3
        cases r3 with
        | ok r w3 =>
          cases r
          · simp only [Result.andThen_ok, Bool.not_false, if_true, Sem.run_pure]
          · simp only [Result.andThen_ok, Bool.not_true, Bool.false_eq_true, if_false, Sem.run_pure]
            exact ih
        | halt x w3 => simp [Result.andThen]
      | halt x w2 => simp [Result.andThen]
    | halt x w1 => simp [Result.andThen]
theorem eqElems_nil {e n : Nat} : (eqElems d e n xs ys []).run P w = .ok true w := by simp [eqElems]
theorem eqElems_cons {e n i : Nat} {is : List Nat} {a b : Value} {r r' : Bool} (ha : (part e xs (i * n)).run P w = .ok a w) (hb : (part e ys (i * n)).run P w = .ok b w)
    (he : (Op.equalIn d e a b).run P w = .ok r w) (hr : (eqElems d e n xs ys is).run P w = .ok r' w) : (eqElems d e n xs ys (i :: is)).run P w = .ok (r && r') w := by
  rw [eqElems]
  simp only [Sem.run_bind, ha, hb, he, hr, Result.andThen_ok, Sem.run_ite, Sem.run_pure]
  cases r <;> simp
end
def vecEq (x y z x' y' z' : Int) : Bool := x == x' && (y == y' && (z == z' && true))
theorem equal_vec {d : Nat} (x y z x' y' z' : Int) (w : World) : (Op.equalIn (d + 2) 27 (.agg #[.int .i64 x, .int .i64 y, .int .i64 z]) (.agg #[.int .i64 x', .int .i64 y', .int .i64 z'])).run Try.prog w = .ok (vecEq x y z x' y' z') w := by
  rw [run_equalIn_struct _ _ _ _ _ (by simp [Program.fieldsOf, Try.underlying27]) (by kernel_rfl)]
  simp only [Program.fieldsOf, Try.underlying27]
  have hag : (isAgg 3).run Try.prog w = .ok false w := by kernel_rfl
  refine eqFields_cons (by simp) (run_part_leaf hag rfl) (run_part_leaf hag rfl) (run_equalIn_int _ _ _ _ _ _ _ Try.underlying3) ?_
  refine eqFields_cons (by simp) (run_part_leaf hag rfl) (run_part_leaf hag rfl) (run_equalIn_int _ _ _ _ _ _ _ Try.underlying3) ?_
  refine eqFields_cons (by simp) (run_part_leaf hag rfl) (run_part_leaf hag rfl) (run_equalIn_int _ _ _ _ _ _ _ Try.underlying3) ?_
  exact eqFields_nil
@[go_sem ↓ high] theorem run_eql_vec (x y z x' y' z' : Int) (w : World) : (binOp .eql 27 (.agg #[.int .i64 x, .int .i64 y, .int .i64 z]) (.agg #[.int .i64 x', .int .i64 y', .int .i64 z'])).run Try.prog w = .ok (.bool (vecEq x y z x' y' z')) w := by
  rw [run_eql_struct, equal_vec (d := 9998)]
  rfl
@[go_sem ↓ high] theorem run_neq_vec (x y z x' y' z' : Int) (w : World) : (binOp .neq 27 (.agg #[.int .i64 x, .int .i64 y, .int .i64 z]) (.agg #[.int .i64 x', .int .i64 y', .int .i64 z'])).run Try.prog w = .ok (.bool (!vecEq x y z x' y' z')) w := by
  rw [run_neq_struct, equal_vec (d := 9998)]
  rfl
theorem vecEq_iff {x y z x' y' z' : Int} : vecEq x y z x' y' z' = true ↔ x = x' ∧ y = y' ∧ z = z' := by simp [vecEq]
theorem vecEq_self (x y z : Int) : vecEq x y z x y z = true := by simp [vecEq]
@[go_sem ↓ high] theorem guard_vec (op : BinOp) (x y : Operand) (xs ys : Array Value) (w : World) : (eqGuard op 27 x y (.agg xs) (.agg ys)).run Try.prog w = .ok () w := run_eqGuard_agg w op _ x y xs ys (by kernel_rfl)
theorem equal_vec3 {d : Nat} (a b c e f g h i j a' b' c' e' f' g' h' i' j' : Int) (w : World) :
    (Op.equalIn (d + 3) 41 (.agg #[.int .i64 a, .int .i64 b, .int .i64 c, .int .i64 e, .int .i64 f, .int .i64 g, .int .i64 h, .int .i64 i, .int .i64 j]) (.agg #[.int .i64 a', .int .i64 b', .int .i64 c', .int .i64 e', .int .i64 f', .int .i64 g', .int .i64 h', .int .i64 i', .int .i64 j'])).run Try.prog w
      = .ok (vecEq a b c a' b' c' && (vecEq e f g e' f' g' && (vecEq h i j h' i' j' && true))) w := by
  have hag : (isAgg 27).run Try.prog w = .ok true w := by kernel_rfl
  have hsz : (sizeOf 27).run Try.prog w = .ok 3 w := by kernel_rfl
  rw [run_equalIn_array Try.underlying41 hsz]
  refine eqElems_cons (run_part_agg hag hsz) (run_part_agg hag hsz) (equal_vec a b c a' b' c' w) ?_
  refine eqElems_cons (run_part_agg hag hsz) (run_part_agg hag hsz) (equal_vec e f g e' f' g' w) ?_
  refine eqElems_cons (run_part_agg hag hsz) (run_part_agg hag hsz) (equal_vec h i j h' i' j' w) ?_
  exact eqElems_nil
@[go_sem ↓ high] theorem run_eql_vec3 (a b c e f g h i j a' b' c' e' f' g' h' i' j' : Int) (w : World) :
    (binOp .eql 41 (.agg #[.int .i64 a, .int .i64 b, .int .i64 c, .int .i64 e, .int .i64 f, .int .i64 g, .int .i64 h, .int .i64 i, .int .i64 j]) (.agg #[.int .i64 a', .int .i64 b', .int .i64 c', .int .i64 e', .int .i64 f', .int .i64 g', .int .i64 h', .int .i64 i', .int .i64 j'])).run Try.prog w
      = .ok (.bool (vecEq a b c a' b' c' && (vecEq e f g e' f' g' && (vecEq h i j h' i' j' && true)))) w := by
  rw [run_eql_struct, equal_vec3 (d := 9997)]
  rfl
@[go_sem ↓ high] theorem guard_vec3 (op : BinOp) (x y : Operand) (xs ys : Array Value) (w : World) : (eqGuard op 41 x y (.agg xs) (.agg ys)).run Try.prog w = .ok () w := run_eqGuard_agg w op _ x y xs ys (by kernel_rfl)
theorem equal_tri {d : Nat} (a b c e f g h i j a' b' c' e' f' g' h' i' j' : Int) (w : World) :
    (Op.equalIn (d + 4) 43 (.agg #[.int .i64 a, .int .i64 b, .int .i64 c, .int .i64 e, .int .i64 f, .int .i64 g, .int .i64 h, .int .i64 i, .int .i64 j]) (.agg #[.int .i64 a', .int .i64 b', .int .i64 c', .int .i64 e', .int .i64 f', .int .i64 g', .int .i64 h', .int .i64 i', .int .i64 j'])).run Try.prog w
      = .ok (vecEq a b c a' b' c' && (vecEq e f g e' f' g' && (vecEq h i j h' i' j' && true)) && true) w := by
  rw [run_equalIn_struct _ _ _ _ _ (by simp [Program.fieldsOf, Try.underlying43]) (by kernel_rfl)]
  simp only [Program.fieldsOf, Try.underlying43]
  have hag : (isAgg 41).run Try.prog w = .ok true w := by kernel_rfl
  have hsz : (sizeOf 41).run Try.prog w = .ok 9 w := by kernel_rfl
  refine eqFields_cons (by simp) (run_part_agg hag hsz) (run_part_agg hag hsz) (equal_vec3 a b c e f g h i j a' b' c' e' f' g' h' i' j' w) ?_
  exact eqFields_nil
@[go_sem ↓ high] theorem run_eql_tri (a b c e f g h i j a' b' c' e' f' g' h' i' j' : Int) (w : World) :
    (binOp .eql 43 (.agg #[.int .i64 a, .int .i64 b, .int .i64 c, .int .i64 e, .int .i64 f, .int .i64 g, .int .i64 h, .int .i64 i, .int .i64 j]) (.agg #[.int .i64 a', .int .i64 b', .int .i64 c', .int .i64 e', .int .i64 f', .int .i64 g', .int .i64 h', .int .i64 i', .int .i64 j'])).run Try.prog w
      = .ok (.bool (vecEq a b c a' b' c' && (vecEq e f g e' f' g' && (vecEq h i j h' i' j' && true)) && true)) w := by
  rw [run_eql_struct, equal_tri (d := 9996)]
  rfl
@[go_sem ↓ high] theorem guard_tri (op : BinOp) (x y : Operand) (xs ys : Array Value) (w : World) : (eqGuard op 43 x y (.agg xs) (.agg ys)).run Try.prog w = .ok () w := run_eqGuard_agg w op _ x y xs ys (by kernel_rfl)
end Go.Proofs.Ytkdkdejgajcneaa
