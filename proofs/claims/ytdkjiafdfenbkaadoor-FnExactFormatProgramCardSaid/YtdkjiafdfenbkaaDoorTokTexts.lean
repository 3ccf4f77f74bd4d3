/- Contracts of TokenTexts. -/
import Derived.Test.YtdkjiafdfenbkaaDoorSToken
import Derived.Test.YtdkjiafdfenbkaaDoorSString
import Derived.Test.YtdkjiafdfenbkaaDoorAppend
namespace Go.Proofs.YtdkjiafdfenbkaaDoor
open Go.RowKit
/-- The texts of the tokens but the end. -/
def texts (l : List TokenD) : List ByteArray := (l.filter fun t => t.f0 != 0).map (·.f1)
theorem texts_take {l : List TokenD} {k : Nat} (h : k < l.length) : texts (l.take (k + 1)) = texts (l.take k) ++ (if (l.getD k default).f0 != 0 then [(l.getD k default).f1] else []) := by
  rw [List.take_succ_eq_append_getElem h, List.getD_eq_getElem?_getD, List.getElem?_eq_getElem h]
  simp only [texts, List.filter_append, List.map_append, List.filter_cons, List.filter_nil, Option.getD_some]
  split <;> simp
theorem texts_len (l : List TokenD) : (texts l).length ≤ l.length := by
  simp only [texts, List.length_map]; exact List.length_filter_le _ _
theorem strings_at {ts : List ByteArray} : ∀ i, i < ts.length → ∀ j, j < 1 → (ts.map Value.string)[i * 1 + j]? = (stringAt ts i)[j]? := by
  intro i hi j hj
  obtain rfl : j = 0 := by omega
  rw [Nat.mul_one, Nat.add_zero]
  simp [stringAt, hi]
end Go.Proofs.YtdkjiafdfenbkaaDoor
