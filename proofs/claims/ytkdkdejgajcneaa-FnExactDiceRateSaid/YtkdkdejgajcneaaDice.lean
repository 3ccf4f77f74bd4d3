/- Dicing: what a cell of a grid comes to, in plain words; its contract for the spec. -/
import Derived.Test.YtkdkdejgajcneaaEvalPatch
import Derived.Test.YtkdkdejgajcneaaProject
import Derived.Test.YtkdkdejgajcneaaSMicropolygon
import Derived.Test.YtkdkdejgajcneaaSVec
import Derived.Test.YtkdkdejgajcneaaBox
import Derived.Test.YtkdkdejgajcneaaApp
import Derived.Test.YtkdkdejgajcneaaLt
import Derived.Test.YtkdkdejgajcneaaLt2
namespace Go.Proofs.Ytkdkdejgajcneaa
open Go Go.RowKit
set_option linter.unusedVariables false
structure CamD where
  W : Int
  H : Int
  Z : Int
  N : Int
  D : Bool
  L : Int
  F : Int
structure PatD where
  t0 : Int
  t1 : Int
  t2 : Int
  t3 : Int
  t4 : Int
  t5 : Int
  t6 : Int
  t7 : Int
  t8 : Int
  t9 : Int
  t10 : Int
  t11 : Int
@[reducible] def CamD.cells (c : CamD) : List Value := [.int .i64 c.W, .int .i64 c.H, .int .i64 c.Z, .int .i64 c.N, .bool c.D, .int .i64 c.L, .int .i64 c.F]
@[reducible] def PatD.cells (p : PatD) : List Value := [.int .i64 p.t0, .int .i64 p.t1, .int .i64 p.t2, .int .i64 p.t3, .int .i64 p.t4, .int .i64 p.t5, .int .i64 p.t6, .int .i64 p.t7, .int .i64 p.t8, .int .i64 p.t9, .int .i64 p.t10, .int .i64 p.t11]
@[reducible] def CamD.val (c : CamD) : Value := camV c.W c.H c.Z c.N c.D c.L c.F
@[reducible] def PatD.val (p : PatD) : Value := patV p.t0 p.t1 p.t2 p.t3 p.t4 p.t5 p.t6 p.t7 p.t8 p.t9 p.t10 p.t11
/-- A grid point of a patch; where it lies on the screen; is it there? -/
def evP (p : PatD) (i j n : Int) : VecD := ⟨evI p.t0 p.t3 p.t6 p.t9 i j n, evI p.t1 p.t4 p.t7 p.t10 i j n, evI p.t2 p.t5 p.t8 p.t11 i j n⟩
def scOk (c : CamD) (v : VecD) (lx ly : Int) : Bool := projOk c.W c.H c.Z c.N c.L c.F v.f0 v.f1 v.f2 lx ly
def scV (c : CamD) (v : VecD) (lx ly : Int) : VecD :=
  ⟨ifI (scOk c v lx ly) (projI c.D c.Z c.L c.F v.f0 v.f2 lx (c.W * 16 / 2)), ifI (scOk c v lx ly) (projI c.D c.Z c.L c.F v.f1 v.f2 ly (c.H * 16 / 2)), ifI (scOk c v lx ly) v.f2⟩
/-- Corner k of a cell. -/
def ptAt (c : CamD) (p : PatD) (u v n lx ly : Int) (k : Nat) : VecD := scV c (evP p (u + (k % 2 : Nat)) (v + (k / 2 : Nat)) n) lx ly
def okAt (c : CamD) (p : PatD) (u v n lx ly : Int) (k : Nat) : Bool := scOk c (evP p (u + (k % 2 : Nat)) (v + (k / 2 : Nat)) n) lx ly
def dcIn (u v n : Int) : Bool := inB n 1 64 && inB u 0 (n - 1) && inB v 0 (n - 1)
theorem dcIn_bd {u v n : Int} (h : dcIn u v n = true) : (1 ≤ n ∧ n ≤ 64) ∧ (0 ≤ u ∧ u ≤ n - 1) ∧ (0 ≤ v ∧ v ≤ n - 1) := by
  simpa [dcIn, inB_true, and_assoc] using h
theorem dcIn_ev {u v n : Int} (h : dcIn u v n = true) (k : Nat) (hk : k < 4) : evOk (u + (k % 2 : Nat)) (v + (k / 2 : Nat)) n = true := by
  obtain ⟨h1, h2, h3⟩ := dcIn_bd h
  have a : k % 2 ≤ 1 := by omega
  have b : k / 2 ≤ 1 := by omega
  simp [evOk, inB_true]
  omega
def dcOk (c : CamD) (p : PatD) (u v n lx ly : Int) : Bool := dcIn u v n && okAt c p u v n lx ly 0 && okAt c p u v n lx ly 1 && okAt c p u v n lx ly 2 && okAt c p u v n lx ly 3
def micOf (a b d : VecD) (u v n : Int) : MicropolygonD := ⟨a.f0, a.f1, a.f2, b.f0, b.f1, b.f2, d.f0, d.f1, d.f2, u, v, n⟩
def dcTwo (c : CamD) (p : PatD) (u v n lx ly : Int) : List MicropolygonD :=
  [micOf (ptAt c p u v n lx ly 0) (ptAt c p u v n lx ly 1) (ptAt c p u v n lx ly 2) u v n, micOf (ptAt c p u v n lx ly 1) (ptAt c p u v n lx ly 3) (ptAt c p u v n lx ly 2) u v n]
def dcD (c : CamD) (p : PatD) (u v n lx ly : Int) : List MicropolygonD := if dcOk c p u v n lx ly then dcTwo c p u v n lx ly else []
/-- What dicing a cell gives: nothing, or two of one's own. -/
def CellQ (w : World) (l : List MicropolygonD) (e : Ending) (w' : World) : Prop :=
  Below w.heap.size w w' ∧ ((l = [] ∧ e = .returned (.slice none 0 0)) ∨ (l.length = 2 ∧ ∃ g, e = .returned (.slice (some ⟨g, 0, none⟩) 2 2) ∧ w.heap.size ≤ g ∧ w'.heap[g]? = some (.cells ⟨flat 12 2 (MicropolygonD.at l)⟩ 45 (0, 0))))
theorem CellQ.gives {w : World} {l : List MicropolygonD} {e : Ending} {w' : World} (h : CellQ w l e w') : GivesC w 12 l.length (MicropolygonD.at l) e w' := by
  obtain ⟨hb, ⟨rfl, rfl⟩ | ⟨h2, g, rfl, hg, hc⟩⟩ := h
  · exact ⟨_, _, rfl, Ow.none, hb, Nat.le_refl _⟩
  · rw [h2]
    exact ⟨_, _, rfl, ow_new hc hg (Array.getElem?_eq_some_iff.1 hc).1 (by rw [flat_len (s := 12) (fun _ _ => rfl)]; exact Nat.le_refl _) (flat_get (fun _ _ => rfl)), hb, Nat.le_refl _⟩
/-- The two calls that bring a grid point onto the screen. -/
structure PtC (fE fP : FuncId) (cv pv : Value) (i j n lx ly ex ey ez x y z : Int) (ok : Bool) : Prop where
  ev : ∀ w, Calls Try.prog fE #[pv, .int .i64 i, .int .i64 j, .int .i64 n] w fun e w' => e = .returned (vecV ex ey ez) ∧ Below w.heap.size w w'
  pr : ∀ w, Calls Try.prog fP #[cv, vecV ex ey ez, .int .i64 lx, .int .i64 ly] w fun e w' => e = .returned (.tuple #[vecV x y z, .bool ok]) ∧ Below w.heap.size w w'
theorem evA_ok {a b d e i j n : Int} (h : evOk i j n = true) : evA a b d e i j n = evI a b d e i j n := by unfold evA; rw [if_pos h]
theorem spec_pt (c : CamD) (p : PatD) (i j n lx ly : Int) (h : evOk i j n = true) :
    PtC 72 51 c.val p.val i j n lx ly (evP p i j n).f0 (evP p i j n).f1 (evP p i j n).f2 (scV c (evP p i j n) lx ly).f0 (scV c (evP p i j n) lx ly).f1 (scV c (evP p i j n) lx ly).f2 (scOk c (evP p i j n) lx ly) :=
  ⟨fun w => (spec_EvalPatch p.t0 p.t1 p.t2 p.t3 p.t4 p.t5 p.t6 p.t7 p.t8 p.t9 p.t10 p.t11 i j n w).mono fun e w' ⟨h1, h2⟩ => ⟨by rw [h1]; unfold evVA; rw [evA_ok h, evA_ok h, evA_ok h]; rfl, h2⟩,
    fun w => spec_Project c.W c.H c.Z c.N c.D c.L c.F _ _ _ lx ly w⟩
theorem impl_pt (c : CamD) (p : PatD) (i j n lx ly : Int) (h : evOk i j n = true) :
    PtC 73 53 c.val p.val i j n lx ly (evP p i j n).f0 (evP p i j n).f1 (evP p i j n).f2 (scV c (evP p i j n) lx ly).f0 (scV c (evP p i j n) lx ly).f1 (scV c (evP p i j n) lx ly).f2 (scOk c (evP p i j n) lx ly) :=
  ⟨fun w => impl_evalPatch p.t0 p.t1 p.t2 p.t3 p.t4 p.t5 p.t6 p.t7 p.t8 p.t9 p.t10 p.t11 i j n h w, fun w => impl_Project c.W c.H c.Z c.N c.D c.L c.F _ _ _ lx ly w⟩
end Go.Proofs.Ytkdkdejgajcneaa
