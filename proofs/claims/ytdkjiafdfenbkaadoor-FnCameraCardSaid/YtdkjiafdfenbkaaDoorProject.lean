/- Contracts of Project. -/
import Derived.Test.YtdkjiafdfenbkaaDoorPixelAt
import Derived.Test.YtdkjiafdfenbkaaDoorVec
import Derived.Test.YtdkjiafdfenbkaaDoorMath2
import Derived.Laws.EntriesVeiled
import Derived.IntWalk
import Derived.Test.YtdkjiafdfenbkaaDoorLt
namespace Go.Proofs.YtdkjiafdfenbkaaDoor
open Go.RowKit
/-- The lens' shift. -/
def shiftI (l L z F : Int) : Int := fdivI (l * L * (z - F)) 4096
/-- One part on the screen. -/
def projI (D : Bool) (Z L F x z l h : Int) : Int := clampI (fdivI ((x + shiftI l L z F) * Z) (if D then z else 256) + h) (-100000) 100000
structure ProjBd (Z L F x z l : Int) : Prop where
  a : -1024 ≤ l * L ∧ l * L ≤ 1024
  b : -2048000000 ≤ l * L * (z - F) ∧ l * L * (z - F) ≤ 2048000000
  c : -2048000000 ≤ shiftI l L z F ∧ shiftI l L z F ≤ 2048000000
  d : -134283264000000 ≤ (x + shiftI l L z F) * Z ∧ (x + shiftI l L z F) * Z ≤ 134283264000000
  e : ∀ b, -134283264000000 ≤ fdivI ((x + shiftI l L z F) * Z) b ∧ fdivI ((x + shiftI l L z F) * Z) b ≤ 134283264000000
theorem projBd {Z L F x z l : Int} (hZ : 1 ≤ Z ∧ Z ≤ 65536) (hL : 0 ≤ L ∧ L ≤ 64) (hF : 0 ≤ F ∧ F ≤ 1000000) (hx : -1000000 ≤ x ∧ x ≤ 1000000) (hz : -1000000 ≤ z ∧ z ≤ 1000000) (hl : -16 ≤ l ∧ l ≤ 16) : ProjBd Z L F x z l := by
  have h1 := mul_bd (x := l) (y := L) (a := 16) (b := 64) (by omega) (by omega)
  have h2 := mul_bd (x := l * L) (y := z - F) (a := 1024) (b := 2000000) (by omega) (by omega)
  have h3 := fdiv_bd (a := l * L * (z - F)) (b := 4096) (m := 2048000000) (by omega)
  have h4 := mul_bd (x := x + shiftI l L z F) (y := Z) (a := 2049000000) (b := 65536) (by unfold shiftI; omega) (by omega)
  refine ⟨by omega, by omega, by unfold shiftI; omega, by omega, fun b => ?_⟩
  have h5 := fdiv_bd (a := (x + shiftI l L z F) * Z) (b := b) (m := 134283264000000) (by omega)
  omega
theorem projection1_c (x z Z : Int) (b : Nat) (w : World) (hc : w.cell? ⟨b, 2, none⟩ = some (.int .i64 Z)) (h1 : -134283264000000 ≤ x * Z) (h2 : x * Z ≤ 134283264000000) :
    Calls Tryd.prog 84 #[.int .i64 x, .int .i64 z, .pointer (some ⟨b, 0, none⟩)] w fun e w' => e = .returned (.int .i64 (fdivI (x * Z) z)) ∧ w = w' := by
  go_enter Tryd.func84, Tryd.ntmps84
  go_wp2_with (go_at_call 50; refine (impl_FloorDiv _ _ _ (by omega) (by omega)).mono ?_; rintro e w' ⟨rfl, rfl⟩)
  go_ret
  exact ⟨rfl, rfl⟩
theorem projection2_c (x z Z : Int) (b : Nat) (w : World) (hc : w.cell? ⟨b, 2, none⟩ = some (.int .i64 Z)) (h1 : -134283264000000 ≤ x * Z) (h2 : x * Z ≤ 134283264000000) :
    Calls Tryd.prog 85 #[.int .i64 x, .int .i64 z, .pointer (some ⟨b, 0, none⟩)] w fun e w' => e = .returned (.int .i64 (fdivI (x * Z) 256)) ∧ w = w' := by
  go_enter Tryd.func85, Tryd.ntmps85
  go_wp2_with (go_at_call 50; refine (impl_FloorDiv _ _ _ (by omega) (by omega)).mono ?_; rintro e w' ⟨rfl, rfl⟩)
  go_ret
  exact ⟨rfl, rfl⟩
/-- The projection's function. -/
@[reducible] def projF (D : Bool) : FuncId := if D then 84 else 85
theorem projection_c (W H Z N : Int) (D : Bool) (L F : Int) (w : World) :
    Calls Tryd.prog 48 #[camV W H Z N D L F] w fun e w' => e = .returned (.func (.func (projF D)) #[] #[.pointer (some ⟨w.heap.size, 0, none⟩)]) ∧
      w' = w.alloc (.cells #[.int .i64 W, .int .i64 H, .int .i64 Z, .int .i64 N, .bool D, .int .i64 L, .int .i64 F] 31) := by
  cases D
  all_goals
    go_enter Tryd.func48, Tryd.ntmps48
    go_wp2
    go_ret
    exact ⟨rfl, rfl⟩
theorem coord_c (D : Bool) (Z L F x z l W : Int) (b1 b2 b3 b4 : Nat) (w : World) (hL : w.cell? ⟨b1, 5, none⟩ = some (.int .i64 L)) (hF : w.cell? ⟨b1, 6, none⟩ = some (.int .i64 F)) (hz : w.cell? ⟨b2, 2, none⟩ = some (.int .i64 z))
    (hp : w.cell? ⟨b3, 0, none⟩ = some (.func (.func (projF D)) #[] #[.pointer (some ⟨b4, 0, none⟩)])) (hZ : w.cell? ⟨b4, 2, none⟩ = some (.int .i64 Z))
    (hb : ProjBd Z L F x z l) (hx : -1000000 ≤ x ∧ x ≤ 1000000) (hz' : -1000000 ≤ z ∧ z ≤ 1000000) (hF' : 0 ≤ F ∧ F ≤ 1000000) (hW : 1 ≤ W ∧ W ≤ 12) :
    Calls Tryd.prog 49 #[.int .i64 x, .int .i64 l, .int .i64 W, .pointer (some ⟨b1, 0, none⟩), .pointer (some ⟨b2, 0, none⟩), .pointer (some ⟨b3, 0, none⟩)] w
      fun e w' => e = .returned (.int .i64 (projI D Z L F x z l (W * 16 / 2))) ∧ w = w' := by
  obtain ⟨⟨a1, a2⟩, ⟨a3, a4⟩, ⟨a5, a6⟩, ⟨a7, a8⟩, a9⟩ := hb
  obtain ⟨x1, x2⟩ := hx
  obtain ⟨z1, z2⟩ := hz'
  obtain ⟨f1, f2⟩ := hF'
  obtain ⟨w1, w2⟩ := hW
  unfold shiftI at a5 a6 a7 a8 a9
  have a10 := (a9 z).1
  have a11 := (a9 z).2
  have a12 := (a9 256).1
  have a13 := (a9 256).2
  clear a9
  cases D
  all_goals
    simp only [projF, if_true, Bool.false_eq_true, if_false] at hp
    go_enter Tryd.func49, Tryd.ntmps49
    go_wp2_with (first | (go_at_call 50; refine (impl_FloorDiv _ _ _ (by omega) (by omega)).mono ?_; rintro e w' ⟨rfl, rfl⟩) | (go_at_call 84; refine (projection1_c _ _ _ _ _ hZ (by omega) (by omega)).mono ?_; rintro e w' ⟨rfl, rfl⟩) | (go_at_call 85; refine (projection2_c _ _ _ _ _ hZ (by omega) (by omega)).mono ?_; rintro e w' ⟨rfl, rfl⟩) | (go_at_call 51; refine (impl_Clamp _ _ _ _).mono ?_; rintro e w' ⟨rfl, rfl⟩))
    go_ret
    refine ⟨ret_int ?_, rfl⟩
    simp only [projI, shiftI]
    rfl
/-- Is a vector projected? -/
def projOk (W H Z N L F x y z lx ly : Int) : Bool := camOk W H Z N L F && vecOk x y z && inB lx (-16) 16 && inB ly (-16) 16 && decide (N ≤ z)
def ifI (ok : Bool) (n : Int) : Int := if ok then n else 0
@[reducible] def projV (ok : Bool) (W H Z : Int) (D : Bool) (L F x y z lx ly : Int) : Value :=
  .tuple #[.agg #[.int .i64 (ifI ok (projI D Z L F x z lx (W * 16 / 2))), .int .i64 (ifI ok (projI D Z L F y z ly (H * 16 / 2))), .int .i64 (ifI ok z)], .bool ok]
theorem projOk_out {W H Z N L F x y z lx ly : Int} (h : projOk W H Z N L F x y z lx ly = true) :
    camOk W H Z N L F = true ∧ vecOk x y z = true ∧ inB lx (-16) 16 = true ∧ inB ly (-16) 16 = true ∧ N ≤ z := by
  simpa [projOk, and_assoc] using h
theorem vecOk_bd {x y z : Int} (h : vecOk x y z = true) : (-1000000 ≤ x ∧ x ≤ 1000000) ∧ (-1000000 ≤ y ∧ y ≤ 1000000) ∧ (-1000000 ≤ z ∧ z ≤ 1000000) := by
  simpa [vecOk, inB_true, and_assoc] using h
set_option maxRecDepth 100000 in
set_option maxHeartbeats 1000000 in
theorem impl_Project (W H Z N : Int) (D : Bool) (L F x y z lx ly : Int) (w : World) :
    Calls Tryd.prog 22 #[camV W H Z N D L F, vecV x y z, .int .i64 lx, .int .i64 ly] w
      fun e w' => e = .returned (projV (projOk W H Z N L F x y z lx ly) W H Z D L F x y z lx ly) ∧ Below w.heap.size w w' := by
  cases hok : projOk W H Z N L F x y z lx ly
  · go_enter Tryd.func22, Tryd.ntmps22
    go_wp2_with (first | (go_at_call 38; refine (impl_IsValidCamera _ _ _ _ _ _ _ _).mono ?_; rintro e wn ⟨rfl, hbn⟩; obtain ⟨X, nX, rfl⟩ := Below.ext hbn; clear hbn) | (go_at_call 46; refine (impl_IsValidVec _ _ _ _).mono ?_; rintro e wn ⟨rfl, hbn⟩; obtain ⟨X, nX, rfl⟩ := Below.ext hbn; clear hbn) | (go_at_call 47; refine (within_c _ _ _ _).mono ?_; rintro e w' ⟨rfl, rfl⟩))
    all_goals first
      | exact bodyPost_ret (v := projV false W H Z D L F x y z lx ly) (by simp [results, Tryd.results22, go_sem, ifI]) rfl ⟨rfl, (by repeat (first | exact Below.refl _ _ | refine Below.drew ?_ | refine Below.alloc ?_ (by first | exact Nat.le_refl _ | (simp; done) | (simp; omega) | omega) _ | refine Below.more ?_ (by first | exact Nat.le_refl _ | (simp; done) | (simp; omega) | omega) _ _ | refine Below.setCell ?_ (by first | exact Nat.le_refl _ | (simp; done) | (simp; omega) | omega) _ | assumption))⟩
      | (exfalso; have a1 : camOk W H Z N L F = true := (by assumption); have a2 : vecOk x y z = true := (by assumption); have a3 : inB lx (-16) 16 = true := (by assumption); have a4 : inB ly (-16) 16 = true := (by assumption); have a5 : N ≤ z := (by omega); simp [projOk, a1, a2, a3, a4, a5] at hok)
  · obtain ⟨hk, hv, h1, h2, h3⟩ := projOk_out hok
    obtain ⟨⟨hw1, hw2⟩, ⟨hh1, hh2⟩, hZ, hN, hL, hF⟩ := camOk_bd hk
    obtain ⟨hx, hy, hz⟩ := vecOk_bd hv
    have bx := Lib.hid (projBd hZ hL hF hx hz (inB_true.1 h1))
    have by' := Lib.hid (projBd hZ hL hF hy hz (inB_true.1 h2))
    have hx' := Lib.hid hx
    have hy' := Lib.hid hy
    have hz' := Lib.hid hz
    have hF' := Lib.hid hF
    clear hx hy hz hF hZ hL hN
    go_enter Tryd.func22, Tryd.ntmps22
    go_wp2_with (first | (go_at_call 38; refine (impl_IsValidCamera _ _ _ _ _ _ _ _).mono ?_; rintro e wn ⟨rfl, hbn⟩; obtain ⟨X, nX, rfl⟩ := Below.ext hbn; clear hbn) | (go_at_call 46; refine (impl_IsValidVec _ _ _ _).mono ?_; rintro e wn ⟨rfl, hbn⟩; obtain ⟨X, nX, rfl⟩ := Below.ext hbn; clear hbn) | (go_at_call 47; refine (within_c _ _ _ _).mono ?_; rintro e w' ⟨rfl, rfl⟩) | (go_at_call 48; refine (projection_c _ _ _ _ _ _ _ _).mono ?_; rintro e w' ⟨rfl, rfl⟩))
    ((first | refine region_qt2 17 (by kernel_rfl) (by kernel_rfl) ?_ | refine region_qt 17 (by kernel_rfl) (by kernel_rfl) ?_); simp only [List.take_succ_cons, List.take_zero, List.drop_succ_cons, List.drop_zero])
    repeat (quiet_step (fail))
    (refine wpQuiet_step (fun K hK => ?_); go_simp; refine ⟨_, fun zt => ext_same (coord_c D Z L F x z lx W _ _ _ _ _ (by simp [go_sem]) (by simp [go_sem]) (by simp [go_sem]) (by simp [go_sem]; rfl) (by simp [go_sem]) bx.out hx'.out hz'.out hF'.out ⟨hw1, hw2⟩), hK _ ?_⟩; clear hK K)
    repeat (quiet_step (fail))
    (refine wpQuiet_step (fun K hK => ?_); go_simp; refine ⟨_, fun zt => ext_same (coord_c D Z L F y z ly H _ _ _ _ _ (by simp [go_sem]) (by simp [go_sem]) (by simp [go_sem]) (by simp [go_sem]; rfl) (by simp [go_sem]) by'.out hy'.out hz'.out hF'.out ⟨hh1, hh2⟩), hK _ ?_⟩; clear hK K)
    repeat (quiet_step (fail))
    (refine wpQuiet_nil ?_; intro X nX)
    go_wp2
    exact bodyPost_ret (v := projV true W H Z D L F x y z lx ly) (by simp [results, Tryd.results22, go_sem, ifI]) rfl ⟨rfl, (by repeat (first | exact Below.refl _ _ | refine Below.drew ?_ | refine Below.alloc ?_ (by first | exact Nat.le_refl _ | (simp; done) | (simp; omega) | omega) _ | refine Below.more ?_ (by first | exact Nat.le_refl _ | (simp; done) | (simp; omega) | omega) _ _ | refine Below.setCell ?_ (by first | exact Nat.le_refl _ | (simp; done) | (simp; omega) | omega) _ | assumption))⟩
end Go.Proofs.YtdkjiafdfenbkaaDoor
