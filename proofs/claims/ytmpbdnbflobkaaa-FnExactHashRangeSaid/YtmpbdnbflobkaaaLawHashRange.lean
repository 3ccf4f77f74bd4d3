/- The walk of the law FnExactHashRange. -/
import Derived.Test.YtmpbdnbflobkaaaHash
import Derived.Test.YtmpbdnbflobkaaaIntS
import Derived.Test.YtmpbdnbflobkaaaOpenS
import Derived.Test.YtmpbdnbflobkaaaOpen
namespace Go.Proofs.Ytmpbdnbflobkaaa
open Go.RowKit Go.ChangeShapes
set_option maxRecDepth 100000 in
theorem law_HashRange {H : Type} {enc : TypeId × Value → H} {W : World} {base : Nat} {v0 v1 : Value} {d0 d1 : DataW H} {p0 p1 : List MemPlace}
    (k0 : Value.okWide Try.prog W .any base 32 v0) (h0 : DataW.Trod enc Try.prog W 0 (fun _ => true) true 32 v0 d0 p0)
    (k1 : Value.okWide Try.prog W .any base 3 v1) (h1 : DataW.Trod enc Try.prog W 0 (fun _ => true) true 3 v1 d1 p1) :
    Calls Try.prog 4 #[v0, v1] W fun e W' => e = .returned (.bool true) ∧ Below W.heap.size W W' := by
  obtain ⟨ns, n, a, cap, rfl, HN, HR, _⟩ := open_intslice' k0 h0
  obtain ⟨m, rfl, _, _, _⟩ := open_int Try.underlying3 k1 h1
  clear k0 h0 k1 h1
  have hlen : (ns.map (Value.int .i64)).length = n * 1 := by have := HN.out; simp; omega
  have HL := Lib.hid hlen
  clear hlen
  by_cases hbn : n ≤ 1048576
  · go_enter Try.func4, Try.ntmps4
    go_wp2_with fail
    refine (toIntS_core _ ns n HN _ HR.out hbn).mono ?_
    rintro e w1 ⟨rfl, rfl⟩
    go_wp2_with fail
    refine (spec_HashRange _ ns n HN m _ (Row.at_new _ _ _ _ _ (by simp) HL.out (by omega)) hbn).mono ?_
    rintro e w1 ⟨rfl, rfl⟩
    go_wp2_with fail
    refine (toIntS_core _ ns n HN _ (HR.out.alloc _) hbn).mono ?_
    rintro e w1 ⟨rfl, rfl⟩
    go_wp2_with fail
    refine (impl_HashRange _ ns n HN m _ (Row.at_new _ _ _ _ _ (by simp) HL.out (by omega)) hbn).mono ?_
    rintro e w1 ⟨rfl, rfl⟩
    go_wp2_with fail
    refine (toIntS_core _ ns n HN _ ((HR.out.alloc _).alloc _) hbn).mono ?_
    rintro e w1 ⟨rfl, rfl⟩
    go_wp2_with fail
    refine (eqIntS_core _ _ ns n HN _ ((Row.at_new _ _ _ _ _ (by simp) HL.out (by omega)).alloc _) (Row.at_new _ _ _ _ _ (by simp) HL.out (by omega)) hbn).mono ?_
    rintro e wn ⟨rfl, hbn⟩; obtain ⟨X, nX, rfl⟩ := Below.ext hbn; clear hbn
    go_wp2
    go_ret
    exact ⟨rfl, (by repeat (first | exact Below.refl _ _ | refine Below.drew ?_ | refine Below.alloc ?_ (by first | exact Nat.le_refl _ | (simp; done) | (simp; omega) | omega) _ | refine Below.more ?_ (by first | exact Nat.le_refl _ | (simp; done) | (simp; omega) | omega) _ _ | refine Below.setCell ?_ (by first | exact Nat.le_refl _ | (simp; done) | (simp; omega) | omega) _ | assumption))⟩
  · go_enter Try.func4, Try.ntmps4
    go_wp2_with fail
    go_ret
    exact ⟨rfl, (by repeat (first | exact Below.refl _ _ | refine Below.drew ?_ | refine Below.alloc ?_ (by first | exact Nat.le_refl _ | (simp; done) | (simp; omega) | omega) _ | refine Below.more ?_ (by first | exact Nat.le_refl _ | (simp; done) | (simp; omega) | omega) _ _ | refine Below.setCell ?_ (by first | exact Nat.le_refl _ | (simp; done) | (simp; omega) | omega) _ | assumption))⟩
end Go.Proofs.Ytmpbdnbflobkaaa
