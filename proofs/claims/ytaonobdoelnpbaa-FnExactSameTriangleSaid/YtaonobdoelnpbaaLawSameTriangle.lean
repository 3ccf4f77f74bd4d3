/- The walk of the law FnExactSameTriangle. -/
import Derived.Test.YtaonobdoelnpbaaLawTri
import Derived.Test.YtaonobdoelnpbaaOpen
namespace Go.Proofs.Ytaonobdoelnpbaa
open Go.RowKit
set_option maxHeartbeats 1000000 in
set_option maxRecDepth 100000 in
theorem law_SameTriangle {H : Type} {enc : TypeId × Value → H} {W : World} {base : Nat} {v0 v1 : Value} {d0 d1 : DataW H} {p0 p1 : List MemPlace}
    (k0 : Value.okWide Try.prog W .any base 35 v0) (_ : DataW.Trod enc Try.prog W 0 (fun _ => true) true 35 v0 d0 p0)
    (k1 : Value.okWide Try.prog W .any base 35 v1) (_ : DataW.Trod enc Try.prog W 0 (fun _ => true) true 35 v1 d1 p1) :
    Calls Try.prog 6 #[v0, v1] W fun e W' => e = .returned (.bool true) ∧ Below W.heap.size W W' := by
  obtain ⟨a, b, c, d, e, f, g, h, i, rfl, _⟩ := open_triangle k0
  obtain ⟨a', b', c', d', e', f', g', h', i', rfl, _⟩ := open_triangle k1
  clear k0 k1
  go_enter Try.func6, Try.ntmps6
  go_wp2
  (refine region_q (by kernel_rfl) (by kernel_rfl) ?_)
  repeat (quiet_step (fail))
  (refine wpQuiet_step (fun K hK => ?_); go_simp; (first | refine ⟨_, fun z => ext_below (toTriangle_c _ _ _ _ _ _ _ _ _ _), hK _ ?_⟩ | refine ⟨_, fun z => ext_below2 (toTriangle_c _ _ _ _ _ _ _ _ _ _), hK _ ?_⟩); clear hK K)
  repeat (quiet_step (fail))
  (refine wpQuiet_step (fun K hK => ?_); go_simp; (first | refine ⟨_, fun z => ext_below (toTriangle_c _ _ _ _ _ _ _ _ _ _), hK _ ?_⟩ | refine ⟨_, fun z => ext_below2 (toTriangle_c _ _ _ _ _ _ _ _ _ _), hK _ ?_⟩); clear hK K)
  repeat (quiet_step (fail))
  (refine wpQuiet_step (fun K hK => ?_); go_simp; (first | refine ⟨_, fun z => ext_below (spec_SameTriangle _ _ _ _ _ _ _ _ _ _ _ _ _ _ _ _ _ _ _), hK _ ?_⟩ | refine ⟨_, fun z => ext_below2 (spec_SameTriangle _ _ _ _ _ _ _ _ _ _ _ _ _ _ _ _ _ _ _), hK _ ?_⟩); clear hK K)
  repeat (quiet_step (fail))
  (refine wpQuiet_nil ?_; intro X nX)
  go_wp2
  (refine region_q (by kernel_rfl) (by kernel_rfl) ?_)
  repeat (quiet_step (fail))
  (refine wpQuiet_step (fun K hK => ?_); go_simp; (first | refine ⟨_, fun z => ext_below (toTriangle_c _ _ _ _ _ _ _ _ _ _), hK _ ?_⟩ | refine ⟨_, fun z => ext_below2 (toTriangle_c _ _ _ _ _ _ _ _ _ _), hK _ ?_⟩); clear hK K)
  repeat (quiet_step (fail))
  (refine wpQuiet_step (fun K hK => ?_); go_simp; (first | refine ⟨_, fun z => ext_below (toTriangle_c _ _ _ _ _ _ _ _ _ _), hK _ ?_⟩ | refine ⟨_, fun z => ext_below2 (toTriangle_c _ _ _ _ _ _ _ _ _ _), hK _ ?_⟩); clear hK K)
  repeat (quiet_step (fail))
  (refine wpQuiet_step (fun K hK => ?_); go_simp; (first | refine ⟨_, fun z => ext_below (impl_SameTriangle _ _ _ _ _ _ _ _ _ _ _ _ _ _ _ _ _ _ _), hK _ ?_⟩ | refine ⟨_, fun z => ext_below2 (impl_SameTriangle _ _ _ _ _ _ _ _ _ _ _ _ _ _ _ _ _ _ _), hK _ ?_⟩); clear hK K)
  repeat (quiet_step (fail))
  (refine wpQuiet_nil ?_; intro X nX)
  go_wp2
  all_goals (go_ret; exact ⟨rfl, (by repeat (first | exact Below.refl _ _ | refine Below.drew ?_ | refine Below.alloc ?_ (by first | exact Nat.le_refl _ | (simp; done) | (simp; omega) | omega) _ | refine Below.more ?_ (by first | exact Nat.le_refl _ | (simp; done) | (simp; omega) | omega) _ _ | refine Below.setCell ?_ (by first | exact Nat.le_refl _ | (simp; done) | (simp; omega) | omega) _ | assumption))⟩)
end Go.Proofs.Ytaonobdoelnpbaa
