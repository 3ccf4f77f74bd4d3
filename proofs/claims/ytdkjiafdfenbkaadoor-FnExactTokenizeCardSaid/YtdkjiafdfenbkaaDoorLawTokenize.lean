/- The walk of the law FnExactTokenize. -/
import Derived.Test.YtdkjiafdfenbkaaDoorTokI
import Derived.Test.YtdkjiafdfenbkaaDoorTokZ
import Derived.Test.YtdkjiafdfenbkaaDoorOpen
namespace Go.Proofs.YtdkjiafdfenbkaaDoor
open Go Go.RowKit Go.ChangeShapes
open Go.ChangeMaps (open_string)
set_option linter.unusedVariables false
set_option maxRecDepth 100000 in
set_option maxHeartbeats 4000000 in
theorem law_Tokenize {H : Type} {enc : TypeId × Value → H} {W : World} {base : Nat} {v0 : Value} {d0 : DataW H} {p0 : List MemPlace} (hT : HandleE W)
    (k0 : Value.okWide Tryd.prog W .any base 9 v0) (h0 : DataW.Trod enc Tryd.prog W 0 (fun _ => true) true 9 v0 d0 p0) :
    Calls Tryd.prog 8 #[v0] W fun e W' => e = .returned (.bool true) ∧ Below W.heap.size W W' := by
  obtain ⟨t, rfl, _, _, _⟩ := open_string Tryd.underlying9 k0 h0
  have HT := Lib.hid hT
  clear k0 h0 hT
  by_cases ht : t.size ≤ 1048576
  case neg =>
    have h1 : (1048576 : Int) < (t.size : Int) := by omega
    have h2 : 1048576 < t.size := by omega
    go_enter Tryd.func8, Tryd.ntmps8
    go_wp2
    go_ret
    exact ⟨rfl, (by repeat (first | exact Below.refl _ _ | refine Below.drew ?_ | refine Below.alloc ?_ (by first | exact Nat.le_refl _ | (simp; done) | (simp; omega) | omega) _ | refine Below.more ?_ (by first | exact Nat.le_refl _ | (simp; done) | (simp; omega) | omega) _ _ | refine Below.setCell ?_ (by first | exact Nat.le_refl _ | (simp; done) | (simp; omega) | omega) _ | assumption))⟩
  have h1 : ¬ (1048576 : Int) < (t.size : Int) := by omega
  have h2 : ¬ 1048576 < t.size := by omega
  have HS := Lib.hid (spec_Tokenize_c t)
  have HI := Lib.hid (fun w (hb : Below W.heap.size W w) => impl_Tokenize_c t w (HT.out.below hb))
  have hn := resL_len t
  obtain ⟨L, hL⟩ : ∃ L, L = resL (tokR t) := ⟨_, rfl⟩
  obtain ⟨z, hz⟩ : ∃ z, z = resZ (tokR t) := ⟨_, rfl⟩
  have HS2 := Lib.hid (fun w => show Calls Tryd.prog 25 #[.string t] w fun e w' => ∃ a cap, e = .returned (.tuple #[.slice a L.length cap, .int .i64 z]) ∧ Ow w' w.heap.size w'.heap.size a 4 L.length (TokenD.at L) ∧ Below w.heap.size w w' by rw [hL, hz]; exact HS.out w)
  have HI2 := Lib.hid (fun w (hb : Below W.heap.size W w) => show Calls Tryd.prog 26 #[.string t] w fun e w' => ∃ a cap, e = .returned (.tuple #[.slice a L.length cap, .int .i64 z]) ∧ Ow w' w.heap.size w'.heap.size a 4 L.length (TokenD.at L) ∧ Below w.heap.size w w' by rw [hL, hz]; exact HI.out w hb)
  rw [← hL] at hn
  clear HS HI hL hz
  obtain ⟨n, hnn⟩ : ∃ n, n = L.length := ⟨_, rfl⟩
  rw [← hnn] at hn HS2 HI2
  clear hnn
  obtain ⟨w0, rfl⟩ : ∃ w0, w0 = W := ⟨W, rfl⟩
  go_enter Tryd.func8, Tryd.ntmps8
  go_wp2_with fail
  refine (HS2.out _).mono ?_
  rintro e w1 ⟨sa, sc, rfl, so, B1⟩
  have s01 := B1.size
  go_wp2_with fail
  refine (HI2.out _ B1).mono ?_
  rintro e w2 ⟨ga, gc, rfl, go, b2⟩
  have B2 := B1.trans (b2.mono s01)
  have s12 := b2.size
  replace so := so.below b2
  clear b2
  go_wp2_with fail
  refine (eqTokenS_c ga sa gc sc L n _ go.sl so.sl (by omega)).mono ?_
  rintro e w3 ⟨rfl, b3⟩
  have B3 := B2.trans (b3.mono B2.size)
  have s23 := b3.size
  replace so := so.below b3
  replace go := go.below b3
  clear b3
  go_wp2_with fail
  refine (markTokenS_c ga gc L n 1 w1.heap.size w2.heap.size _ go (by omega) (by omega)).mono ?_
  rintro e w4 ⟨rfl, go2, g4⟩
  have B4 := Below.chg B3 g4 (by omega) B3.size
  have s34 := g4.size
  replace so := so.chg g4 (by omega)
  clear g4 go
  go_wp2_with fail
  refine (heldTokenS_c ga gc L n 1 _ go2.sl (by omega) (by omega)).mono ?_
  rintro e w5 ⟨rfl, b5⟩
  have B5 := B4.trans (b5.mono B4.size)
  have s45 := b5.size
  replace so := so.below b5
  replace go2 := go2.below b5
  clear b5
  go_wp2_with fail
  refine (HI2.out _ B5).mono ?_
  rintro e w6 ⟨ha, hc, rfl, ho, b6⟩
  have B6 := B5.trans (b6.mono B5.size)
  have s56 := b6.size
  replace so := so.below b6
  replace go2 := go2.below b6
  clear b6
  go_wp2_with fail
  refine (eqTokenS_c ha sa hc sc L n _ ho.sl so.sl (by omega)).mono ?_
  rintro e w7 ⟨rfl, b7⟩
  have B7 := B6.trans (b7.mono B6.size)
  replace go2 := go2.below b7
  clear b7
  go_wp2_with fail
  refine (heldTokenS_c ga gc L n 1 _ go2.sl (by omega) (by omega)).mono ?_
  rintro e w8 ⟨rfl, b8⟩
  have B8 := B7.trans (b8.mono B7.size)
  clear b8
  go_wp2
  go_ret
  exact ⟨rfl, B8⟩
end Go.Proofs.YtdkjiafdfenbkaaDoor
