/- The walk of the law FnExactProject. -/
import Derived.Test.YtkdkdejgajcneaaProject
import Derived.Test.YtkdkdejgajcneaaOpen
import Derived.Test.YtkdkdejgajcneaaBox
namespace Go.Proofs.Ytkdkdejgajcneaa
open Go.RowKit Go.ChangeShapes
set_option maxRecDepth 100000 in
set_option maxHeartbeats 1000000 in
theorem law_Project {H : Type} {enc : TypeId × Value → H} {W : World} {base : Nat} {v0 v1 v2 v3 : Value} {d0 d1 d2 d3 : DataW H} {p0 p1 p2 p3 : List MemPlace}
    (k0 : Value.okWide Try.prog W .any base 48 v0) (_ : DataW.Trod enc Try.prog W 0 (fun _ => true) true 48 v0 d0 p0)
    (k1 : Value.okWide Try.prog W .any base 49 v1) (_ : DataW.Trod enc Try.prog W 0 (fun _ => true) true 49 v1 d1 p1)
    (k2 : Value.okWide Try.prog W .any base 3 v2) (h2 : DataW.Trod enc Try.prog W 0 (fun _ => true) true 3 v2 d2 p2)
    (k3 : Value.okWide Try.prog W .any base 3 v3) (h3 : DataW.Trod enc Try.prog W 0 (fun _ => true) true 3 v3 d3 p3) :
    Calls Try.prog 14 #[v0, v1, v2, v3] W fun e W' => e = .returned (.bool true) ∧ Below W.heap.size W W' := by
  obtain ⟨cW, cH, cZ, cN, cD, cL, cF, rfl, _⟩ := open_camera k0
  obtain ⟨x, y, z, rfl, _⟩ := open_vec k1
  obtain ⟨lx, rfl, _, _, _⟩ := open_int Try.underlying3 k2 h2
  obtain ⟨ly, rfl, _, _, _⟩ := open_int Try.underlying3 k3 h3
  clear k0 k1 k2 h2 k3 h3
  go_enter Try.func14, Try.ntmps14
  go_wp2
  ((first | refine region_box 10 27 [.int .i64 0, .int .i64 0, .int .i64 0] [.int .i64 (ifI (projOk cW cH cZ cN cL cF x y z lx ly) (projI cD cZ cL cF x z lx (cW * 16 / 2))), .int .i64 (ifI (projOk cW cH cZ cN cL cF x y z lx ly) (projI cD cZ cL cF y z ly (cH * 16 / 2))), .int .i64 (ifI (projOk cW cH cZ cN cL cF x y z lx ly) z)] (by kernel_rfl) (by kernel_rfl) ?_ | refine region_box0 10 27 [.int .i64 0, .int .i64 0, .int .i64 0] [.int .i64 (ifI (projOk cW cH cZ cN cL cF x y z lx ly) (projI cD cZ cL cF x z lx (cW * 16 / 2))), .int .i64 (ifI (projOk cW cH cZ cN cL cF x y z lx ly) (projI cD cZ cL cF y z ly (cH * 16 / 2))), .int .i64 (ifI (projOk cW cH cZ cN cL cF x y z lx ly) z)] (by kernel_rfl) (by kernel_rfl) ?_); simp only [List.take_succ_cons, List.take_zero, List.drop_succ_cons, List.drop_zero])
  repeat (refine headS_step (fun K hK => ?_); go_simp; refine hK _ ?_; clear hK K)
  (refine headS_step (fun K hK => ?_); go_simp; refine ⟨_, fun zt => calls_stays (toCamera_c _ _ _ _ _ _ _ _), hK _ ?_⟩; clear hK K)
  repeat (refine headS_step (fun K hK => ?_); go_simp; refine hK _ ?_; clear hK K)
  (refine headS_step (fun K hK => ?_); go_simp; refine ⟨_, fun zt => calls_stays (toVec_c _ _ _ _), hK _ ?_⟩; clear hK K)
  repeat (refine headS_step (fun K hK => ?_); go_simp; refine hK _ ?_; clear hK K)
  (refine headS_step (fun K hK => ?_); go_simp; refine ⟨_, fun zt => calls_stays (spec_Project _ _ _ _ _ _ _ _ _ _ _ _ _), hK _ ?_⟩; clear hK K)
  repeat (refine headS_step (fun K hK => ?_); go_simp; refine hK _ ?_; clear hK K)
  refine headS_nil ?_
  refine tail_box (by go_simp) (fun X d => by go_simp) (fun b => by go_simp) (fun b w hb => by go_simp) (fun b => ?_)
  refine tail_quiet (v := .bool (projOk cW cH cZ cN cL cF x y z lx ly)) (by go_simp) (fun w => by go_simp) ?_
  refine tail_done (fun X1 X2 d hb => ?_)
  subst hb
  simp only [Act.put, List.setIfInBounds_toArray, List.set_cons_zero, List.set_cons_succ]
  go_wp2
  ((first | refine region_box 10 27 [.int .i64 0, .int .i64 0, .int .i64 0] [.int .i64 (ifI (projOk cW cH cZ cN cL cF x y z lx ly) (projI cD cZ cL cF x z lx (cW * 16 / 2))), .int .i64 (ifI (projOk cW cH cZ cN cL cF x y z lx ly) (projI cD cZ cL cF y z ly (cH * 16 / 2))), .int .i64 (ifI (projOk cW cH cZ cN cL cF x y z lx ly) z)] (by kernel_rfl) (by kernel_rfl) ?_ | refine region_box0 10 27 [.int .i64 0, .int .i64 0, .int .i64 0] [.int .i64 (ifI (projOk cW cH cZ cN cL cF x y z lx ly) (projI cD cZ cL cF x z lx (cW * 16 / 2))), .int .i64 (ifI (projOk cW cH cZ cN cL cF x y z lx ly) (projI cD cZ cL cF y z ly (cH * 16 / 2))), .int .i64 (ifI (projOk cW cH cZ cN cL cF x y z lx ly) z)] (by kernel_rfl) (by kernel_rfl) ?_); simp only [List.take_succ_cons, List.take_zero, List.drop_succ_cons, List.drop_zero])
  repeat (refine headS_step (fun K hK => ?_); go_simp; refine hK _ ?_; clear hK K)
  (refine headS_step (fun K hK => ?_); go_simp; refine ⟨_, fun zt => calls_stays (toCamera_c _ _ _ _ _ _ _ _), hK _ ?_⟩; clear hK K)
  repeat (refine headS_step (fun K hK => ?_); go_simp; refine hK _ ?_; clear hK K)
  (refine headS_step (fun K hK => ?_); go_simp; refine ⟨_, fun zt => calls_stays (toVec_c _ _ _ _), hK _ ?_⟩; clear hK K)
  repeat (refine headS_step (fun K hK => ?_); go_simp; refine hK _ ?_; clear hK K)
  (refine headS_step (fun K hK => ?_); go_simp; refine ⟨_, fun zt => calls_stays (impl_Project _ _ _ _ _ _ _ _ _ _ _ _ _), hK _ ?_⟩; clear hK K)
  repeat (refine headS_step (fun K hK => ?_); go_simp; refine hK _ ?_; clear hK K)
  refine headS_nil ?_
  refine tail_box (by go_simp) (fun X d => by go_simp) (fun b => by go_simp) (fun b w hb => by go_simp) (fun b => ?_)
  refine tail_quiet (v := .bool (projOk cW cH cZ cN cL cF x y z lx ly)) (by go_simp) (fun w => by go_simp) ?_
  refine tail_done (fun X1 X2 d hb => ?_)
  subst hb
  simp only [Act.put, List.setIfInBounds_toArray, List.set_cons_zero, List.set_cons_succ]
  go_wp2_with (go_at_call 54; refine (eqVec_c _ _ _ _).mono ?_; rintro e wn ⟨rfl, hbn⟩; obtain ⟨X, nX, rfl⟩ := Below.ext hbn; clear hbn)
  all_goals (go_ret; exact ⟨rfl, (by repeat (first | exact Below.refl _ _ | refine Below.drew ?_ | refine Below.alloc ?_ (by first | exact Nat.le_refl _ | (simp; done) | (simp; omega) | omega) _ | refine Below.more ?_ (by first | exact Nat.le_refl _ | (simp; done) | (simp; omega) | omega) _ _ | refine Below.setCell ?_ (by first | exact Nat.le_refl _ | (simp; done) | (simp; omega) | omega) _ | assumption))⟩)
end Go.Proofs.Ytkdkdejgajcneaa
