/- Contract of spec.DiceCell. -/
import Derived.Test.YtkdkdejgajcneaaDice
import Derived.Test.YtkdkdejgajcneaaAppend
namespace Go.Proofs.Ytkdkdejgajcneaa
open Go Go.RowKit
set_option linter.unusedVariables false
/-- The four corners of a cell that is there, each by its two calls. -/
structure Four (fE fP : FuncId) (cv pv : Value) (u v n lx ly : Int) (PT : Nat → VecD) (OK : Nat → Bool) (DD : List MicropolygonD) : Prop where
  h0 : ∃ ex ey ez, PtC fE fP cv pv u v n lx ly ex ey ez (PT 0).f0 (PT 0).f1 (PT 0).f2 (OK 0)
  h1 : ∃ ex ey ez, PtC fE fP cv pv (u + 1) v n lx ly ex ey ez (PT 1).f0 (PT 1).f1 (PT 1).f2 (OK 1)
  h2 : ∃ ex ey ez, PtC fE fP cv pv u (v + 1) n lx ly ex ey ez (PT 2).f0 (PT 2).f1 (PT 2).f2 (OK 2)
  h3 : ∃ ex ey ez, PtC fE fP cv pv (u + 1) (v + 1) n lx ly ex ey ez (PT 3).f0 (PT 3).f1 (PT 3).f2 (OK 3)
  ok : (∀ j, j < 4 → OK j = true) → DD = [micOf (PT 0) (PT 1) (PT 2) u v n, micOf (PT 1) (PT 3) (PT 2) u v n]
  no : ∀ j, j < 4 → OK j = false → DD = []
theorem ptAt_0 (c : CamD) (p : PatD) (u v n lx ly : Int) : ptAt c p u v n lx ly 0 = scV c (evP p (u) (v) n) lx ly := by simp [ptAt]
theorem okAt_0 (c : CamD) (p : PatD) (u v n lx ly : Int) : okAt c p u v n lx ly 0 = scOk c (evP p (u) (v) n) lx ly := by simp [okAt]
theorem ptAt_1 (c : CamD) (p : PatD) (u v n lx ly : Int) : ptAt c p u v n lx ly 1 = scV c (evP p (u + 1) (v) n) lx ly := by simp [ptAt]
theorem okAt_1 (c : CamD) (p : PatD) (u v n lx ly : Int) : okAt c p u v n lx ly 1 = scOk c (evP p (u + 1) (v) n) lx ly := by simp [okAt]
theorem ptAt_2 (c : CamD) (p : PatD) (u v n lx ly : Int) : ptAt c p u v n lx ly 2 = scV c (evP p (u) (v + 1) n) lx ly := by simp [ptAt]
theorem okAt_2 (c : CamD) (p : PatD) (u v n lx ly : Int) : okAt c p u v n lx ly 2 = scOk c (evP p (u) (v + 1) n) lx ly := by simp [okAt]
theorem ptAt_3 (c : CamD) (p : PatD) (u v n lx ly : Int) : ptAt c p u v n lx ly 3 = scV c (evP p (u + 1) (v + 1) n) lx ly := by simp [ptAt]
theorem okAt_3 (c : CamD) (p : PatD) (u v n lx ly : Int) : okAt c p u v n lx ly 3 = scOk c (evP p (u + 1) (v + 1) n) lx ly := by simp [okAt]
theorem four (fE fP : FuncId) (c : CamD) (p : PatD) (u v n lx ly : Int) (hin : dcIn u v n = true)
    (hp : ∀ i j, evOk i j n = true → PtC fE fP c.val p.val i j n lx ly (evP p i j n).f0 (evP p i j n).f1 (evP p i j n).f2 (scV c (evP p i j n) lx ly).f0 (scV c (evP p i j n) lx ly).f1 (scV c (evP p i j n) lx ly).f2 (scOk c (evP p i j n) lx ly)) :
    Four fE fP c.val p.val u v n lx ly (ptAt c p u v n lx ly) (okAt c p u v n lx ly) (dcD c p u v n lx ly) := by
  refine ⟨?_, ?_, ?_, ?_, fun h => ?_, fun j hj h => ?_⟩
  · exact ⟨(evP p (u) (v) n).f0, (evP p (u) (v) n).f1, (evP p (u) (v) n).f2, by rw [ptAt_0, okAt_0]; exact hp _ _ (by simpa using dcIn_ev hin 0 (by decide))⟩
  · exact ⟨(evP p (u + 1) (v) n).f0, (evP p (u + 1) (v) n).f1, (evP p (u + 1) (v) n).f2, by rw [ptAt_1, okAt_1]; exact hp _ _ (by simpa using dcIn_ev hin 1 (by decide))⟩
  · exact ⟨(evP p (u) (v + 1) n).f0, (evP p (u) (v + 1) n).f1, (evP p (u) (v + 1) n).f2, by rw [ptAt_2, okAt_2]; exact hp _ _ (by simpa using dcIn_ev hin 2 (by decide))⟩
  · exact ⟨(evP p (u + 1) (v + 1) n).f0, (evP p (u + 1) (v + 1) n).f1, (evP p (u + 1) (v + 1) n).f2, by rw [ptAt_3, okAt_3]; exact hp _ _ (by simpa using dcIn_ev hin 3 (by decide))⟩
  · unfold dcD dcOk
    rw [hin, h 0 (by decide), h 1 (by decide), h 2 (by decide), h 3 (by decide)]
    rfl
  · unfold dcD dcOk
    have hj' : j = 0 ∨ j = 1 ∨ j = 2 ∨ j = 3 := by omega
    rcases hj' with rfl | rfl | rfl | rfl <;> simp [h]
theorem info_VecC : (Try.prog.info? 27).map (fun i => (i.zero, i.size, i.bytes)) = some (some (.agg #[.int .i64 0, .int .i64 0, .int .i64 0]), 3, 24) := by kernel_rfl
set_option maxRecDepth 100000 in
set_option maxHeartbeats 4000000 in
theorem spec_DiceCell_no (c : CamD) (p : PatD) (u v n lx ly : Int) (w : World) (hin : dcIn u v n = false) :
    Calls Try.prog 25 #[c.val, p.val, .int .i64 u, .int .i64 v, .int .i64 n, .int .i64 lx, .int .i64 ly] w (CellQ w []) := by
  cases hn : inB n 1 64
  · go_enter Try.func25, Try.ntmps25
    go_wp2_with (go_at_call 68; refine (l01In_c _ _ _ _).mono ?_; rw [hn]; rintro e w' ⟨rfl, rfl⟩)
    go_ret
    exact ⟨(by repeat (first | exact Below.refl _ _ | refine Below.drew ?_ | refine Below.alloc ?_ (by first | exact Nat.le_refl _ | (simp; done) | (simp; omega) | omega) _ | refine Below.more ?_ (by first | exact Nat.le_refl _ | (simp; done) | (simp; omega) | omega) _ _ | refine Below.setCell ?_ (by first | exact Nat.le_refl _ | (simp; done) | (simp; omega) | omega) _ | assumption)), .inl ⟨rfl, rfl⟩⟩
  · have hn' := inB_true.1 hn
    have qn : IntKind.i64.wrap (n - 1) = n - 1 := IntWalk.i64_in _ (by omega)
    cases hu : inB u 0 (n - 1)
    · go_enter Try.func25, Try.ntmps25
      go_wp2_with (go_at_call 68; refine (l01In_c _ _ _ _).mono ?_; (first | rw [hn] | rw [hu]); rintro e w' ⟨rfl, rfl⟩)
      go_ret
      exact ⟨(by repeat (first | exact Below.refl _ _ | refine Below.drew ?_ | refine Below.alloc ?_ (by first | exact Nat.le_refl _ | (simp; done) | (simp; omega) | omega) _ | refine Below.more ?_ (by first | exact Nat.le_refl _ | (simp; done) | (simp; omega) | omega) _ _ | refine Below.setCell ?_ (by first | exact Nat.le_refl _ | (simp; done) | (simp; omega) | omega) _ | assumption)), .inl ⟨rfl, rfl⟩⟩
    · have hv : inB v 0 (n - 1) = false := by simpa [dcIn, hn, hu] using hin
      go_enter Try.func25, Try.ntmps25
      go_wp2_with (go_at_call 68; refine (l01In_c _ _ _ _).mono ?_; (first | rw [hn] | rw [hu] | rw [hv]); rintro e w' ⟨rfl, rfl⟩)
      go_ret
      exact ⟨(by repeat (first | exact Below.refl _ _ | refine Below.drew ?_ | refine Below.alloc ?_ (by first | exact Nat.le_refl _ | (simp; done) | (simp; omega) | omega) _ | refine Below.more ?_ (by first | exact Nat.le_refl _ | (simp; done) | (simp; omega) | omega) _ _ | refine Below.setCell ?_ (by first | exact Nat.le_refl _ | (simp; done) | (simp; omega) | omega) _ | assumption)), .inl ⟨rfl, rfl⟩⟩
end Go.Proofs.Ytkdkdejgajcneaa
