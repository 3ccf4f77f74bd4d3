/- The walk of the law FnExactPixelAt. -/
import Derived.Test.YtaonobdoelnpbaaPixelAt
import Derived.Test.YtaonobdoelnpbaaOpen
namespace Go.Proofs.Ytaonobdoelnpbaa
open Go.RowKit Go.ChangeShapes
theorem has_bd {x : Int} (h : IntKind.i64.has x) : -9223372036854775808 ≤ x ∧ x ≤ 9223372036854775807 := by
  have h' : IntKind.i64.min ≤ x ∧ x ≤ IntKind.i64.max := h
  simpa [IntKind.min, IntKind.max, IntKind.signed, IntKind.bits] using h'
theorem wf_bd {x : Int} (h : (Lit.int .i64 x).wf = true) : -9223372036854775808 ≤ x ∧ x ≤ 9223372036854775807 := by
  simpa [Lit.wf, IntKind.min, IntKind.max, IntKind.signed, IntKind.bits] using h
theorem law_PixelAt {H : Type} {enc : TypeId × Value → H} {W : World} {base : Nat} {v0 v1 v2 : Value} {d0 d1 d2 : DataW H} {p0 p1 p2 : List MemPlace}
    (k0 : Value.okWide Try.prog W .any base 26 v0) (_ : DataW.Trod enc Try.prog W 0 (fun _ => true) true 26 v0 d0 p0)
    (k1 : Value.okWide Try.prog W .any base 3 v1) (h1 : DataW.Trod enc Try.prog W 0 (fun _ => true) true 3 v1 d1 p1)
    (k2 : Value.okWide Try.prog W .any base 3 v2) (h2 : DataW.Trod enc Try.prog W 0 (fun _ => true) true 3 v2 d2 p2) :
    Calls Try.prog 8 #[v0, v1, v2] W fun e W' => e = .returned (.bool true) ∧ Below W.heap.size W W' := by
  obtain ⟨cW, cH, cZ, cN, cD, cL, cF, rfl, _⟩ := open_camera k0
  obtain ⟨x, rfl, _, _, wx⟩ := open_int Try.underlying3 k1 h1
  obtain ⟨y, rfl, _, _, wy⟩ := open_int Try.underlying3 k2 h2
  have bx := Lib.hid (wf_bd wx)
  have by' := Lib.hid (wf_bd wy)
  clear k0 k1 h1 k2 h2 wx wy
  go_enter Try.func8, Try.ntmps8
  go_wp2_with (first | (go_at_call 14; refine (toCamera_c _ _ _ _ _ _ _ _).mono ?_; rintro e wn ⟨rfl, hbn⟩; obtain ⟨X, nX, rfl⟩ := Below.ext hbn; clear hbn) | (go_at_call 21; refine (spec_PixelAt _ _ _ _ _ _ _ _ _ _ bx.out by'.out).mono ?_; rintro e wn ⟨rfl, hbn⟩; obtain ⟨X, nX, rfl⟩ := Below.ext hbn; clear hbn) | (go_at_call 22; refine (impl_PixelAt _ _ _ _ _ _ _ _ _ _).mono ?_; rintro e wn ⟨rfl, hbn⟩; obtain ⟨X, nX, rfl⟩ := Below.ext hbn; clear hbn))
  all_goals (go_ret; exact ⟨rfl, (by repeat (first | exact Below.refl _ _ | refine Below.drew ?_ | refine Below.alloc ?_ (by first | exact Nat.le_refl _ | (simp; done) | (simp; omega) | omega) _ | refine Below.more ?_ (by first | exact Nat.le_refl _ | (simp; done) | (simp; omega) | omega) _ _ | refine Below.setCell ?_ (by first | exact Nat.le_refl _ | (simp; done) | (simp; omega) | omega) _ | assumption))⟩)
end Go.Proofs.Ytaonobdoelnpbaa
