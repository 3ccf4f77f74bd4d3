/- Contracts of EvalPatch: a grid point of a patch. -/
import Derived.Test.YtkdkdejgajcneaaInterp
import Derived.Test.YtkdkdejgajcneaaLt2
namespace Go.Proofs.Ytkdkdejgajcneaa
open Go.RowKit
/-- Is the grid point there? -/
def evOk (i j n : Int) : Bool := inB n 1 64 && inB i 0 n && inB j 0 n
/-- One part of a grid point, weighed. -/
def evI (a b d e i j n : Int) : Int := fdivI ((n - i) * (n - j) * cc a + i * (n - j) * cc b + (n - i) * j * cc d + i * j * cc e) (n * n)
theorem mul64 {x y : Int} (hx : 0 ≤ x ∧ x ≤ 64) (hy : 0 ≤ y ∧ y ≤ 64) : 0 ≤ x * y ∧ x * y ≤ 4096 := by
  refine ⟨Int.mul_nonneg hx.1 hy.1, ?_⟩
  have := mul_bd (x := x) (y := y) (a := 64) (b := 64) (by omega) (by omega)
  omega
theorem evOk_bd {i j n : Int} (h : evOk i j n = true) : (1 ≤ n ∧ n ≤ 64) ∧ (0 ≤ i ∧ i ≤ n) ∧ (0 ≤ j ∧ j ≤ n) := by
  simpa [evOk, inB_true, and_assoc] using h
structure WBd (k : Int) : Prop where
  lo : 0 ≤ k
  hi : k ≤ 4096
theorem WBd.mul {k : Int} (h : WBd k) (x : Int) : -4096000000 ≤ k * cc x ∧ k * cc x ≤ 4096000000 := by
  have := mul_bd (x := k) (y := cc x) (a := 4096) (b := 1000000) (by have := h.lo; have := h.hi; omega) (by have := cc_bd x; omega)
  omega
theorem WBd.in64 {k : Int} (h : WBd k) (x : Int) : In64 (k * cc x) := by have := h.mul x; exact ⟨by omega, by omega⟩
structure EvW (i j n : Int) : Prop where
  a : WBd ((n - i) * (n - j))
  b : WBd (i * (n - j))
  d : WBd ((n - i) * j)
  e : WBd (i * j)
  n : 1 ≤ n * n ∧ n * n ≤ 4096
theorem evW {i j n : Int} (h : evOk i j n = true) : EvW i j n := by
  obtain ⟨hn, hi, hj⟩ := evOk_bd h
  have h1 := mul64 (x := n - i) (y := n - j) (by omega) (by omega)
  have h2 := mul64 (x := i) (y := n - j) (by omega) (by omega)
  have h3 := mul64 (x := n - i) (y := j) (by omega) (by omega)
  have h4 := mul64 (x := i) (y := j) (by omega) (by omega)
  have h5 := mul64 (x := n) (y := n) (by omega) (by omega)
  have h6 : n * 1 ≤ n * n := Int.mul_le_mul_of_nonneg_left (by omega) (by omega)
  exact ⟨⟨h1.1, h1.2⟩, ⟨h2.1, h2.2⟩, ⟨h3.1, h3.2⟩, ⟨h4.1, h4.2⟩, by omega, h5.2⟩
theorem plus_zero (x y z : Int) (w : World) (hx : In64 x) (hy : In64 y) (hz : In64 z) :
    Calls Try.prog 103 #[vecV 0 0 0, vecV x y z] w fun e w' => e = .returned (vecV x y z) ∧ Below w.heap.size w w' := by
  have h := impl_plus 0 0 0 x y z w (by simpa using hx) (by simpa using hy) (by simpa using hz)
  simpa using h
@[reducible] def evV (t0 t1 t2 t3 t4 t5 t6 t7 t8 t9 t10 t11 i j n : Int) : Value := vecV (evI t0 t3 t6 t9 i j n) (evI t1 t4 t7 t10 i j n) (evI t2 t5 t8 t11 i j n)
theorem s2_in {a b x y : Int} (ha : WBd a) (hb : WBd b) : In64 (a * cc x + b * cc y) := by
  have := ha.mul x; have := hb.mul y; exact ⟨by omega, by omega⟩
theorem s3_in {a b d x y z : Int} (ha : WBd a) (hb : WBd b) (hd : WBd d) : In64 (a * cc x + b * cc y + d * cc z) := by
  have := ha.mul x; have := hb.mul y; have := hd.mul z; exact ⟨by omega, by omega⟩
theorem s4_in {a b d e x y z u : Int} (ha : WBd a) (hb : WBd b) (hd : WBd d) (he : WBd e) : In64 (a * cc x + b * cc y + d * cc z + e * cc u) := by
  have := ha.mul x; have := hb.mul y; have := hd.mul z; have := he.mul u; exact ⟨by omega, by omega⟩
set_option maxRecDepth 100000 in
set_option maxHeartbeats 2000000 in
theorem impl_evalPatch (t0 t1 t2 t3 t4 t5 t6 t7 t8 t9 t10 t11 i j n : Int) (h : evOk i j n = true) (w : World) :
    Calls Try.prog 73 #[patV t0 t1 t2 t3 t4 t5 t6 t7 t8 t9 t10 t11, .int .i64 i, .int .i64 j, .int .i64 n] w fun e w' =>
      e = .returned (evV t0 t1 t2 t3 t4 t5 t6 t7 t8 t9 t10 t11 i j n) ∧ Below w.heap.size w w' := by
  have ix0 : ∀ w, (Instr.index 28 (patV t0 t1 t2 t3 t4 t5 t6 t7 t8 t9 t10 t11) (.int .i64 0)).run Try.prog w = .ok (.agg #[.int .i64 t0, .int .i64 t1, .int .i64 t2]) w := fun _ => by kernel_rfl
  have ix1 : ∀ w, (Instr.index 28 (patV t0 t1 t2 t3 t4 t5 t6 t7 t8 t9 t10 t11) (.int .i64 1)).run Try.prog w = .ok (.agg #[.int .i64 t3, .int .i64 t4, .int .i64 t5]) w := fun _ => by kernel_rfl
  have ix2 : ∀ w, (Instr.index 28 (patV t0 t1 t2 t3 t4 t5 t6 t7 t8 t9 t10 t11) (.int .i64 2)).run Try.prog w = .ok (.agg #[.int .i64 t6, .int .i64 t7, .int .i64 t8]) w := fun _ => by kernel_rfl
  have ix3 : ∀ w, (Instr.index 28 (patV t0 t1 t2 t3 t4 t5 t6 t7 t8 t9 t10 t11) (.int .i64 3)).run Try.prog w = .ok (.agg #[.int .i64 t9, .int .i64 t10, .int .i64 t11]) w := fun _ => by kernel_rfl
  obtain ⟨⟨hn1, hn2⟩, ⟨hi1, hi2⟩, ⟨hj1, hj2⟩⟩ := evOk_bd h
  obtain ⟨Wa, Wb, Wd, We, hq1, hq2⟩ := evW h
  have HE := Lib.hid (show ∀ a b d e, evI a b d e i j n = fdivI ((n - i) * (n - j) * cc a + i * (n - j) * cc b + (n - i) * j * cc d + i * j * cc e) (n * n) from fun _ _ _ _ => rfl)
  have b1 := Wa.lo
  have b2 := Wa.hi
  have b3 := Wb.lo
  have b4 := Wb.hi
  have b5 := Wd.lo
  have b6 := Wd.hi
  have b7 := We.lo
  have b8 := We.hi
  generalize ea : (n - i) * (n - j) = a at *
  generalize eb : i * (n - j) = b at *
  generalize ed : (n - i) * j = d at *
  generalize ee : i * j = e at *
  have HWa := Lib.hid Wa
  have HWb := Lib.hid Wb
  have HWd := Lib.hid Wd
  have HWe := Lib.hid We
  clear Wa Wb Wd We h
  go_enter Try.func73, Try.ntmps73
  go_wp2
  refine wp_loop_rounds 5 ?_
  rw [rounds_succ]; go_wp2
  ((first | refine region_qt2 8 (by kernel_rfl) (by kernel_rfl) ?_ | refine region_qt 8 (by kernel_rfl) (by kernel_rfl) ?_); simp only [List.take_succ_cons, List.take_zero, List.drop_succ_cons, List.drop_zero])
  repeat (quiet_step (fail))
  (refine wpQuiet_step (fun K hK => ?_); go_simp; refine ⟨_, fun zt => ext_below (impl_clamped _ _ _ _), hK _ ?_⟩; clear hK K)
  repeat (quiet_step (fail))
  (refine wpQuiet_step (fun K hK => ?_); go_simp; refine ⟨_, fun zt => ext_below (impl_times _ _ _ a _ (HWa.out.in64 _) (HWa.out.in64 _) (HWa.out.in64 _)), hK _ ?_⟩; clear hK K)
  repeat (quiet_step (fail))
  (refine wpQuiet_step (fun K hK => ?_); go_simp; refine ⟨_, fun zt => ext_below (plus_zero _ _ _ _ (HWa.out.in64 _) (HWa.out.in64 _) (HWa.out.in64 _)), hK _ ?_⟩; clear hK K)
  repeat (quiet_step (fail))
  (refine wpQuiet_nil ?_; intro X nX)
  go_wp2
  rw [rounds_succ]; go_wp2
  ((first | refine region_qt2 8 (by kernel_rfl) (by kernel_rfl) ?_ | refine region_qt 8 (by kernel_rfl) (by kernel_rfl) ?_); simp only [List.take_succ_cons, List.take_zero, List.drop_succ_cons, List.drop_zero])
  repeat (quiet_step (fail))
  (refine wpQuiet_step (fun K hK => ?_); go_simp; refine ⟨_, fun zt => ext_below (impl_clamped _ _ _ _), hK _ ?_⟩; clear hK K)
  repeat (quiet_step (fail))
  (refine wpQuiet_step (fun K hK => ?_); go_simp; refine ⟨_, fun zt => ext_below (impl_times _ _ _ b _ (HWb.out.in64 _) (HWb.out.in64 _) (HWb.out.in64 _)), hK _ ?_⟩; clear hK K)
  repeat (quiet_step (fail))
  (refine wpQuiet_step (fun K hK => ?_); go_simp; refine ⟨_, fun zt => ext_below (impl_plus _ _ _ _ _ _ _ (s2_in HWa.out HWb.out) (s2_in HWa.out HWb.out) (s2_in HWa.out HWb.out)), hK _ ?_⟩; clear hK K)
  repeat (quiet_step (fail))
  (refine wpQuiet_nil ?_; intro X nX)
  go_wp2
  rw [rounds_succ]; go_wp2
  ((first | refine region_qt2 8 (by kernel_rfl) (by kernel_rfl) ?_ | refine region_qt 8 (by kernel_rfl) (by kernel_rfl) ?_); simp only [List.take_succ_cons, List.take_zero, List.drop_succ_cons, List.drop_zero])
  repeat (quiet_step (fail))
  (refine wpQuiet_step (fun K hK => ?_); go_simp; refine ⟨_, fun zt => ext_below (impl_clamped _ _ _ _), hK _ ?_⟩; clear hK K)
  repeat (quiet_step (fail))
  (refine wpQuiet_step (fun K hK => ?_); go_simp; refine ⟨_, fun zt => ext_below (impl_times _ _ _ d _ (HWd.out.in64 _) (HWd.out.in64 _) (HWd.out.in64 _)), hK _ ?_⟩; clear hK K)
  repeat (quiet_step (fail))
  (refine wpQuiet_step (fun K hK => ?_); go_simp; refine ⟨_, fun zt => ext_below (impl_plus _ _ _ _ _ _ _ (s3_in HWa.out HWb.out HWd.out) (s3_in HWa.out HWb.out HWd.out) (s3_in HWa.out HWb.out HWd.out)), hK _ ?_⟩; clear hK K)
  repeat (quiet_step (fail))
  (refine wpQuiet_nil ?_; intro X nX)
  go_wp2
  rw [rounds_succ]; go_wp2
  ((first | refine region_qt2 8 (by kernel_rfl) (by kernel_rfl) ?_ | refine region_qt 8 (by kernel_rfl) (by kernel_rfl) ?_); simp only [List.take_succ_cons, List.take_zero, List.drop_succ_cons, List.drop_zero])
  repeat (quiet_step (fail))
  (refine wpQuiet_step (fun K hK => ?_); go_simp; refine ⟨_, fun zt => ext_below (impl_clamped _ _ _ _), hK _ ?_⟩; clear hK K)
  repeat (quiet_step (fail))
  (refine wpQuiet_step (fun K hK => ?_); go_simp; refine ⟨_, fun zt => ext_below (impl_times _ _ _ e _ (HWe.out.in64 _) (HWe.out.in64 _) (HWe.out.in64 _)), hK _ ?_⟩; clear hK K)
  repeat (quiet_step (fail))
  (refine wpQuiet_step (fun K hK => ?_); go_simp; refine ⟨_, fun zt => ext_below (impl_plus _ _ _ _ _ _ _ (s4_in HWa.out HWb.out HWd.out HWe.out) (s4_in HWa.out HWb.out HWd.out HWe.out) (s4_in HWa.out HWb.out HWd.out HWe.out)), hK _ ?_⟩; clear hK K)
  repeat (quiet_step (fail))
  (refine wpQuiet_nil ?_; intro X nX)
  go_wp2
  rw [rounds_succ]
  go_wp2_with (go_at_call 105; refine (impl_over _ _ _ _ _ (s4_in HWa.out HWb.out HWd.out HWe.out) (s4_in HWa.out HWb.out HWd.out HWe.out) (s4_in HWa.out HWb.out HWd.out HWe.out)).mono ?_; rintro e wn ⟨rfl, hbn⟩; obtain ⟨X, nX, rfl⟩ := Below.ext hbn; clear hbn)
  exact bodyPost_ret (v := evV t0 t1 t2 t3 t4 t5 t6 t7 t8 t9 t10 t11 i j n) (by simp [results, Try.results73, go_sem, HE.out]) rfl ⟨rfl, (by repeat (first | exact Below.refl _ _ | refine Below.drew ?_ | refine Below.alloc ?_ (by first | exact Nat.le_refl _ | (simp; done) | (simp; omega) | omega) _ | refine Below.more ?_ (by first | exact Nat.le_refl _ | (simp; done) | (simp; omega) | omega) _ _ | refine Below.setCell ?_ (by first | exact Nat.le_refl _ | (simp; done) | (simp; omega) | omega) _ | assumption))⟩
theorem spec_mean (x y z u i j n : Int) (h : evOk i j n = true) (hx : -1000000 ≤ x ∧ x ≤ 1000000) (hy : -1000000 ≤ y ∧ y ≤ 1000000) (hz : -1000000 ≤ z ∧ z ≤ 1000000) (hu : -1000000 ≤ u ∧ u ≤ 1000000) (w : World) :
    Calls Try.prog 102 #[.int .i64 x, .int .i64 y, .int .i64 z, .int .i64 u, .int .i64 i, .int .i64 j, .int .i64 n] w fun e w' => e = .returned (.int .i64 (fdivI ((n - i) * (n - j) * x + i * (n - j) * y + (n - i) * j * z + i * j * u) (n * n))) ∧ w = w' := by
  obtain ⟨⟨hn1, hn2⟩, ⟨hi1, hi2⟩, ⟨hj1, hj2⟩⟩ := evOk_bd h
  obtain ⟨Wa, Wb, Wd, We, hq1, hq2⟩ := evW h
  have m : ∀ {k v : Int}, -1000000 ≤ v ∧ v ≤ 1000000 → 0 ≤ k ∧ k ≤ 64 → -64000000 ≤ v * k ∧ v * k ≤ 64000000 := fun {k v} hv hk => by
    have := mul_bd (x := v) (y := k) (a := 1000000) (b := 64) (by omega) (by omega)
    omega
  have m2 : ∀ {k v : Int}, -64000000 ≤ v ∧ v ≤ 64000000 → 0 ≤ k ∧ k ≤ 64 → -4096000000 ≤ v * k ∧ v * k ≤ 4096000000 := fun {k v} hv hk => by
    have := mul_bd (x := v) (y := k) (a := 64000000) (b := 64) (by omega) (by omega)
    omega
  obtain ⟨a1, a2⟩ := m hx (show 0 ≤ n - i ∧ n - i ≤ 64 by omega)
  obtain ⟨a3, a4⟩ := m2 ⟨a1, a2⟩ (show 0 ≤ n - j ∧ n - j ≤ 64 by omega)
  obtain ⟨c1, c2⟩ := m hy (show 0 ≤ i ∧ i ≤ 64 by omega)
  obtain ⟨c3, c4⟩ := m2 ⟨c1, c2⟩ (show 0 ≤ n - j ∧ n - j ≤ 64 by omega)
  obtain ⟨d1, d2⟩ := m hz (show 0 ≤ n - i ∧ n - i ≤ 64 by omega)
  obtain ⟨d3, d4⟩ := m2 ⟨d1, d2⟩ (show 0 ≤ j ∧ j ≤ 64 by omega)
  obtain ⟨e1, e2⟩ := m hu (show 0 ≤ i ∧ i ≤ 64 by omega)
  obtain ⟨e3, e4⟩ := m2 ⟨e1, e2⟩ (show 0 ≤ j ∧ j ≤ 64 by omega)
  have HE := Lib.hid (show (n - i) * (n - j) * x + i * (n - j) * y + (n - i) * j * z + i * j * u = x * (n - i) * (n - j) + y * i * (n - j) + z * (n - i) * j + u * i * j by
    have r : ∀ p q v : Int, p * q * v = v * p * q := fun p q v => by rw [Int.mul_comm (p * q) v, Int.mul_assoc]
    rw [r (n - i) (n - j) x, r i (n - j) y, r (n - i) j z, r i j u])
  clear m m2 Wa Wb Wd We h
  go_enter Try.func102, Try.ntmps102
  go_wp2_with (go_at_call 111; refine (spec_FloorDiv _ _ _ (by omega) (by omega)).mono ?_; rintro e w' ⟨rfl, rfl⟩)
  go_ret
  exact ⟨ret_int (by rw [HE.out]), rfl⟩
/-- What a grid point of a patch is, everywhere. -/
def evA (a b d e i j n : Int) : Int := if evOk i j n then evI a b d e i j n else cc a
@[reducible] def evVA (t0 t1 t2 t3 t4 t5 t6 t7 t8 t9 t10 t11 i j n : Int) : Value := vecV (evA t0 t3 t6 t9 i j n) (evA t1 t4 t7 t10 i j n) (evA t2 t5 t8 t11 i j n)
set_option maxRecDepth 100000 in
set_option maxHeartbeats 2000000 in
theorem spec_EvalPatch (t0 t1 t2 t3 t4 t5 t6 t7 t8 t9 t10 t11 i j n : Int) (w : World) :
    Calls Try.prog 72 #[patV t0 t1 t2 t3 t4 t5 t6 t7 t8 t9 t10 t11, .int .i64 i, .int .i64 j, .int .i64 n] w fun e w' =>
      e = .returned (evVA t0 t1 t2 t3 t4 t5 t6 t7 t8 t9 t10 t11 i j n) ∧ Below w.heap.size w w' := by
  cases hok : evOk i j n
  · go_enter Try.func72, Try.ntmps72
    go_wp2_with (first | (go_at_call 101; refine (spec_l02V _ _ _ _).mono ?_; rintro e wn ⟨rfl, hbn⟩; obtain ⟨X, nX, rfl⟩ := Below.ext hbn; clear hbn) | (go_at_call 68; refine (l01In_c _ _ _ _).mono ?_; rintro e w' ⟨rfl, rfl⟩))
    all_goals first
      | exact bodyPost_ret (v := evVA t0 t1 t2 t3 t4 t5 t6 t7 t8 t9 t10 t11 i j n) (by simp [results, Try.results72, go_sem, evA, hok]) rfl ⟨rfl, (by repeat (first | exact Below.refl _ _ | refine Below.drew ?_ | refine Below.alloc ?_ (by first | exact Nat.le_refl _ | (simp; done) | (simp; omega) | omega) _ | refine Below.more ?_ (by first | exact Nat.le_refl _ | (simp; done) | (simp; omega) | omega) _ _ | refine Below.setCell ?_ (by first | exact Nat.le_refl _ | (simp; done) | (simp; omega) | omega) _ | assumption))⟩
      | (exfalso; have a1 : inB n 1 64 = true := (by assumption); have a2 : inB i 0 n = true := (by assumption); have a3 : inB j 0 n = true := (by first | assumption | (have q : (!inB j 0 n) = false := (by assumption); simpa using q)); simp [evOk, a1, a2, a3] at hok)
  · have hh := hok
    simp only [evOk, Bool.and_eq_true] at hh
    obtain ⟨⟨o1, o2⟩, o3⟩ := hh
    have HE := Lib.hid (show ∀ a b d e, evA a b d e i j n = fdivI ((n - i) * (n - j) * cc a + i * (n - j) * cc b + (n - i) * j * cc d + i * j * cc e) (n * n) from fun _ _ _ _ => by unfold evA; rw [if_pos hok]; rfl)
    have HO := Lib.hid hok
    clear hok
    go_enter Try.func72, Try.ntmps72
    go_wp2_with (first | (go_at_call 101; refine (spec_l02V _ _ _ _).mono ?_; rintro e wn ⟨rfl, hbn⟩; obtain ⟨X, nX, rfl⟩ := Below.ext hbn; clear hbn) | (go_at_call 68; refine (l01In_c _ _ _ _).mono ?_; rintro e w' ⟨rfl, rfl⟩))
    all_goals try (exfalso; first | (have a1 : inB n 1 64 = false := (by assumption); exact absurd (o1.symm.trans a1) (by decide)) | (have a1 : inB i 0 n = false := (by assumption); exact absurd (o2.symm.trans a1) (by decide)) | (have a1 : inB j 0 n = false := (by first | assumption | (have q : (!inB j 0 n) = true := (by assumption); simpa using q)); exact absurd (o3.symm.trans a1) (by decide)))
    ((first | refine region_qt2 37 (by kernel_rfl) (by kernel_rfl) ?_ | refine region_qt 37 (by kernel_rfl) (by kernel_rfl) ?_); simp only [List.take_succ_cons, List.take_zero, List.drop_succ_cons, List.drop_zero])
    repeat (quiet_step (fail))
    (refine wpQuiet_step (fun K hK => ?_); go_simp; refine ⟨_, fun zt => ext_same (spec_mean _ _ _ _ _ _ _ HO.out (cc_bd _) (cc_bd _) (cc_bd _) (cc_bd _) _), hK _ ?_⟩; clear hK K)
    repeat (quiet_step (fail))
    (refine wpQuiet_step (fun K hK => ?_); go_simp; refine ⟨_, fun zt => ext_same (spec_mean _ _ _ _ _ _ _ HO.out (cc_bd _) (cc_bd _) (cc_bd _) (cc_bd _) _), hK _ ?_⟩; clear hK K)
    repeat (quiet_step (fail))
    (refine wpQuiet_step (fun K hK => ?_); go_simp; refine ⟨_, fun zt => ext_same (spec_mean _ _ _ _ _ _ _ HO.out (cc_bd _) (cc_bd _) (cc_bd _) (cc_bd _) _), hK _ ?_⟩; clear hK K)
    repeat (quiet_step (fail))
    (refine wpQuiet_nil ?_; intro X nX)
    go_wp2
    exact bodyPost_ret (v := evVA t0 t1 t2 t3 t4 t5 t6 t7 t8 t9 t10 t11 i j n) (by simp [results, Try.results72, go_sem, HE.out]) rfl ⟨rfl, (by repeat (first | exact Below.refl _ _ | refine Below.drew ?_ | refine Below.alloc ?_ (by first | exact Nat.le_refl _ | (simp; done) | (simp; omega) | omega) _ | refine Below.more ?_ (by first | exact Nat.le_refl _ | (simp; done) | (simp; omega) | omega) _ _ | refine Below.setCell ?_ (by first | exact Nat.le_refl _ | (simp; done) | (simp; omega) | omega) _ | assumption))⟩
set_option maxRecDepth 100000 in
set_option maxHeartbeats 2000000 in
theorem impl_EvalPatch (t0 t1 t2 t3 t4 t5 t6 t7 t8 t9 t10 t11 i j n : Int) (h : evOk i j n = true) (w : World) :
    Calls Try.prog 37 #[patV t0 t1 t2 t3 t4 t5 t6 t7 t8 t9 t10 t11, .int .i64 i, .int .i64 j, .int .i64 n] w fun e w' =>
      e = .returned (evV t0 t1 t2 t3 t4 t5 t6 t7 t8 t9 t10 t11 i j n) ∧ Below w.heap.size w w' := by
  have hh := h
  simp only [evOk, Bool.and_eq_true] at hh
  obtain ⟨⟨o1, o2⟩, o3⟩ := hh
  have HO := Lib.hid h
  clear h
  go_enter Try.func37, Try.ntmps37
  go_wp2_with (first | (go_at_call 73; refine (impl_evalPatch _ _ _ _ _ _ _ _ _ _ _ _ _ _ _ HO.out _).mono ?_; rintro e wn ⟨rfl, hbn⟩; obtain ⟨X, nX, rfl⟩ := Below.ext hbn; clear hbn) | (go_at_call 62; refine (within_c _ _ _ _).mono ?_; rintro e w' ⟨rfl, rfl⟩))
  all_goals first
    | exact bodyPost_ret (v := evV t0 t1 t2 t3 t4 t5 t6 t7 t8 t9 t10 t11 i j n) (by simp [results, Try.results37, go_sem]) rfl ⟨rfl, (by repeat (first | exact Below.refl _ _ | refine Below.drew ?_ | refine Below.alloc ?_ (by first | exact Nat.le_refl _ | (simp; done) | (simp; omega) | omega) _ | refine Below.more ?_ (by first | exact Nat.le_refl _ | (simp; done) | (simp; omega) | omega) _ _ | refine Below.setCell ?_ (by first | exact Nat.le_refl _ | (simp; done) | (simp; omega) | omega) _ | assumption))⟩
    | (exfalso; first | (have a1 : inB n 1 64 = false := (by assumption); exact absurd (o1.symm.trans a1) (by decide)) | (have a1 : inB i 0 n = false := (by assumption); exact absurd (o2.symm.trans a1) (by decide)) | (have a1 : inB j 0 n = false := (by first | assumption | (have q : (!inB j 0 n) = true := (by assumption); simpa using q)); exact absurd (o3.symm.trans a1) (by decide)))
end Go.Proofs.Ytkdkdejgajcneaa
