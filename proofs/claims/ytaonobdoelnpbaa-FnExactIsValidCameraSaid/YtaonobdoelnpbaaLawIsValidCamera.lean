/- The walk of the law FnExactIsValidCamera. -/
import Derived.Test.YtaonobdoelnpbaaCam
import Derived.Test.YtaonobdoelnpbaaOpen
namespace Go.Proofs.Ytaonobdoelnpbaa
open Go.RowKit
theorem law_IsValidCamera {H : Type} {enc : TypeId × Value → H} {W : World} {base : Nat} {v0 : Value} {d0 : DataW H} {p0 : List MemPlace}
    (k0 : Value.okWide Try.prog W .any base 26 v0) (_ : DataW.Trod enc Try.prog W 0 (fun _ => true) true 26 v0 d0 p0) :
    Calls Try.prog 5 #[v0] W fun e W' => e = .returned (.bool true) ∧ Below W.heap.size W W' := by
  obtain ⟨cW, cH, cZ, cN, cD, cL, cF, rfl, _⟩ := open_camera k0
  clear k0
  go_enter Try.func5, Try.ntmps5
  go_wp2_with (first | (go_at_call 14; refine (toCamera_c _ _ _ _ _ _ _ _).mono ?_; rintro e wn ⟨rfl, hbm⟩; (first | (have hbk := Below.trans hbn (Below.mono hbm (Below.size hbn)); clear hbn hbm hcn hfn hzn; have hbn := hbk; clear hbk) | (have hbn := hbm; clear hbm)); obtain ⟨hcn, hfn⟩ := bcell hbn; have hzn := hbn.size; (try simp at hzn)) | (go_at_call 13; refine (spec_IsValidCamera _ _ _ _ _ _ _ _).mono ?_; rintro e wn ⟨rfl, hbm⟩; (first | (have hbk := Below.trans hbn (Below.mono hbm (Below.size hbn)); clear hbn hbm hcn hfn hzn; have hbn := hbk; clear hbk) | (have hbn := hbm; clear hbm)); obtain ⟨hcn, hfn⟩ := bcell hbn; have hzn := hbn.size; (try simp at hzn)) | (go_at_call 15; refine (impl_IsValidCamera _ _ _ _ _ _ _ _).mono ?_; rintro e wn ⟨rfl, hbm⟩; (first | (have hbk := Below.trans hbn (Below.mono hbm (Below.size hbn)); clear hbn hbm hcn hfn hzn; have hbn := hbk; clear hbk) | (have hbn := hbm; clear hbm)); obtain ⟨hcn, hfn⟩ := bcell hbn; have hzn := hbn.size; (try simp at hzn)))
  all_goals (go_ret; exact ⟨rfl, (by repeat (first | exact Below.refl _ _ | refine Below.drew ?_ | refine Below.alloc ?_ (by first | exact Nat.le_refl _ | (simp; done) | (simp; omega) | omega) _ | refine Below.setCell ?_ (by first | exact Nat.le_refl _ | (simp; done) | (simp; omega) | omega) _ | refine Below.step ?_ (by assumption) (by first | exact Nat.le_refl _ | (simp; done) | (simp; omega) | omega)))⟩)
end Go.Proofs.Ytaonobdoelnpbaa
