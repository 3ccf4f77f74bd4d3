/- The walks of the laws on IsVariable, Arity and CheckText. -/
import Derived.Test.YtaonobdoelnpbaaWords
import Derived.Test.YtaonobdoelnpbaaOpen
namespace Go.Proofs.Ytaonobdoelnpbaa
open Go.RowKit Go.ChangeShapes
open Go.ChangeMaps (open_string)
theorem law_IsVariable {H : Type} {enc : TypeId × Value → H} {W : World} {base : Nat} {v0 : Value} {d0 : DataW H} {p0 : List MemPlace}
    (k0 : Value.okWide Try.prog W .any base 9 v0) (h0 : DataW.Trod enc Try.prog W 0 (fun _ => true) true 9 v0 d0 p0) :
    Calls Try.prog 3 #[v0] W fun e W' => e = .returned (.bool true) ∧ Below W.heap.size W W' := by
  obtain ⟨s, rfl, _, _, hs⟩ := open_string Try.underlying9 k0 h0
  clear k0 h0
  go_enter Try.func3, Try.ntmps3
  go_wp2_with (first | (go_at_call 9; refine (spec_IsVariable _ _).mono ?_; rintro e wn ⟨rfl, hbm⟩; (first | (have hbk := Below.trans hbn (Below.mono hbm (Below.size hbn)); clear hbn hbm hcn hfn hzn; have hbn := hbk; clear hbk) | (have hbn := hbm; clear hbm)); obtain ⟨hcn, hfn⟩ := bcell hbn; have hzn := hbn.size; (try simp at hzn)) | (go_at_call 10; refine (impl_IsVariable _ _).mono ?_; rintro e w' ⟨rfl, rfl⟩))
  all_goals (go_ret; exact ⟨rfl, (by repeat (first | exact Below.refl _ _ | refine Below.drew ?_ | refine Below.alloc ?_ (by first | exact Nat.le_refl _ | (simp; done) | (simp; omega) | omega) _ | refine Below.setCell ?_ (by first | exact Nat.le_refl _ | (simp; done) | (simp; omega) | omega) _ | refine Below.step ?_ (by assumption) (by first | exact Nat.le_refl _ | (simp; done) | (simp; omega) | omega)))⟩)
theorem law_Arity {H : Type} {enc : TypeId × Value → H} {W : World} {base : Nat} {v0 : Value} {d0 : DataW H} {p0 : List MemPlace}
    (k0 : Value.okWide Try.prog W .any base 9 v0) (h0 : DataW.Trod enc Try.prog W 0 (fun _ => true) true 9 v0 d0 p0) :
    Calls Try.prog 7 #[v0] W fun e W' => e = .returned (.bool true) ∧ Below W.heap.size W W' := by
  obtain ⟨s, rfl, _, _, hs⟩ := open_string Try.underlying9 k0 h0
  clear k0 h0
  go_enter Try.func7, Try.ntmps7
  go_wp2_with (first | (go_at_call 19; refine (spec_Arity _ _).mono ?_; rintro e w' ⟨rfl, rfl⟩) | (go_at_call 20; refine (impl_Arity _ _).mono ?_; rintro e w' ⟨rfl, rfl⟩))
  all_goals (go_ret; exact ⟨rfl, (by repeat (first | exact Below.refl _ _ | refine Below.drew ?_ | refine Below.alloc ?_ (by first | exact Nat.le_refl _ | (simp; done) | (simp; omega) | omega) _ | refine Below.setCell ?_ (by first | exact Nat.le_refl _ | (simp; done) | (simp; omega) | omega) _ | refine Below.step ?_ (by assumption) (by first | exact Nat.le_refl _ | (simp; done) | (simp; omega) | omega)))⟩)
theorem law_CheckText {H : Type} {enc : TypeId × Value → H} {W : World} {base : Nat} {v0 : Value} {d0 : DataW H} {p0 : List MemPlace}
    (k0 : Value.okWide Try.prog W .any base 3 v0) (h0 : DataW.Trod enc Try.prog W 0 (fun _ => true) true 3 v0 d0 p0) :
    Calls Try.prog 4 #[v0] W fun e W' => e = .returned (.bool true) ∧ Below W.heap.size W W' := by
  obtain ⟨n, rfl, _, _, _⟩ := open_int Try.underlying3 k0 h0
  clear k0 h0
  go_enter Try.func4, Try.ntmps4
  go_wp2_with (first | (go_at_call 11; refine (spec_CheckText _ _).mono ?_; rintro e wn ⟨rfl, hbm⟩; (first | (have hbk := Below.trans hbn (Below.mono hbm (Below.size hbn)); clear hbn hbm hcn hfn hzn; have hbn := hbk; clear hbk) | (have hbn := hbm; clear hbm)); obtain ⟨hcn, hfn⟩ := bcell hbn; have hzn := hbn.size; (try simp at hzn)) | (go_at_call 12; refine (impl_CheckText _ _).mono ?_; rintro e wn ⟨rfl, hbm⟩; (first | (have hbk := Below.trans hbn (Below.mono hbm (Below.size hbn)); clear hbn hbm hcn hfn hzn; have hbn := hbk; clear hbk) | (have hbn := hbm; clear hbm)); obtain ⟨hcn, hfn⟩ := bcell hbn; have hzn := hbn.size; (try simp at hzn)))
  all_goals (go_ret; exact ⟨rfl, (by repeat (first | exact Below.refl _ _ | refine Below.drew ?_ | refine Below.alloc ?_ (by first | exact Nat.le_refl _ | (simp; done) | (simp; omega) | omega) _ | refine Below.setCell ?_ (by first | exact Nat.le_refl _ | (simp; done) | (simp; omega) | omega) _ | refine Below.step ?_ (by assumption) (by first | exact Nat.le_refl _ | (simp; done) | (simp; omega) | omega)))⟩)
end Go.Proofs.Ytaonobdoelnpbaa
