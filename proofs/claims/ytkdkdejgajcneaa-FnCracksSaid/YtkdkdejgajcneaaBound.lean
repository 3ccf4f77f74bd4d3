/- Contracts of boxes: bounds of points, the box around two boxes, what lies in a box. -/
import Derived.Test.YtkdkdejgajcneaaSVec
import Derived.Test.YtkdkdejgajcneaaInterp
import Derived.Test.YtkdkdejgajcneaaSl
import Derived.Test.YtkdkdejgajcneaaPutO
import Derived.Test.YtkdkdejgajcneaaStage2
import Derived.Test.YtkdkdejgajcneaaBox
import Derived.Test.YtkdkdejgajcneaaLt2
namespace Go.Proofs.Ytkdkdejgajcneaa
open Go Go.RowKit
@[reducible] def boxV (x0 y0 z0 x1 y1 z1 : Int) : Value := .agg #[.int .i64 x0, .int .i64 y0, .int .i64 z0, .int .i64 x1, .int .i64 y1, .int .i64 z1]
/-- A point lies in a box. -/
structure InBox (x0 y0 z0 x1 y1 z1 : Int) (p : VecD) : Prop where
  a : x0 ≤ p.f0 ∧ p.f0 ≤ x1
  b : y0 ≤ p.f1 ∧ p.f1 ≤ y1
  c : z0 ≤ p.f2 ∧ p.f2 ≤ z1
structure VOk (p : VecD) : Prop where
  a : -1000000 ≤ p.f0 ∧ p.f0 ≤ 1000000
  b : -1000000 ≤ p.f1 ∧ p.f1 ≤ 1000000
  c : -1000000 ≤ p.f2 ∧ p.f2 ≤ 1000000
theorem cc_id {x : Int} (h : -1000000 ≤ x ∧ x ≤ 1000000) : cc x = x := clamp_in h.1 h.2
theorem min1_c (x y : Int) (w : World) : Calls Try.prog 109 #[.int .i64 x, .int .i64 y] w fun e w' => e = .returned (.int .i64 (min x y)) ∧ w' = w := by
  go_enter Try.func109, Try.ntmps109
  go_wp2
  all_goals (go_ret; exact ⟨ret_int (by omega), rfl⟩)
theorem max1_c (x y : Int) (w : World) : Calls Try.prog 110 #[.int .i64 x, .int .i64 y] w fun e w' => e = .returned (.int .i64 (max x y)) ∧ w' = w := by
  go_enter Try.func110, Try.ntmps110
  go_wp2
  all_goals (go_ret; exact ⟨ret_int (by omega), rfl⟩)
set_option maxRecDepth 100000 in
theorem impl_MinVec (x y z x2 y2 z2 : Int) (w : World) :
    Calls Try.prog 80 #[vecV x y z, vecV x2 y2 z2] w fun e w' => e = .returned (vecV (min (cc x) (cc x2)) (min (cc y) (cc y2)) (min (cc z) (cc z2))) ∧ Below w.heap.size w w' := by
  go_enter Try.func80, Try.ntmps80
  go_wp2
  ((first | refine region_qt2 5 (by kernel_rfl) (by kernel_rfl) ?_ | refine region_qt 5 (by kernel_rfl) (by kernel_rfl) ?_); simp only [List.take_succ_cons, List.take_zero, List.drop_succ_cons, List.drop_zero])
  repeat (quiet_step (fail))
  (refine wpQuiet_step (fun K hK => ?_); go_simp; refine ⟨_, fun zt => ext_below (impl_clamped _ _ _ _), hK _ ?_⟩; clear hK K)
  repeat (quiet_step (fail))
  (refine wpQuiet_step (fun K hK => ?_); go_simp; refine ⟨_, fun zt => ext_below (impl_clamped _ _ _ _), hK _ ?_⟩; clear hK K)
  repeat (quiet_step (fail))
  (refine wpQuiet_step (fun K hK => ?_); go_simp; refine ⟨_, fun zt => ext_below (impl_with 109 _ _ _ _ _ _ _ _ _ _ (fun _ _ _ => by kernel_rfl) (fun W _ => min1_c _ _ W) (fun W _ => min1_c _ _ W) (fun W _ => min1_c _ _ W)), hK _ ?_⟩; clear hK K)
  repeat (quiet_step (fail))
  (refine wpQuiet_nil ?_; intro X nX)
  go_wp2
  exact bodyPost_ret (v := vecV (min (cc x) (cc x2)) (min (cc y) (cc y2)) (min (cc z) (cc z2))) (by simp [results, Try.results80, go_sem]) rfl ⟨rfl, (by repeat (first | exact Below.refl _ _ | refine Below.drew ?_ | refine Below.alloc ?_ (by first | exact Nat.le_refl _ | (simp; done) | (simp; omega) | omega) _ | refine Below.more ?_ (by first | exact Nat.le_refl _ | (simp; done) | (simp; omega) | omega) _ _ | refine Below.setCell ?_ (by first | exact Nat.le_refl _ | (simp; done) | (simp; omega) | omega) _ | assumption))⟩
set_option maxRecDepth 100000 in
theorem impl_MaxVec (x y z x2 y2 z2 : Int) (w : World) :
    Calls Try.prog 81 #[vecV x y z, vecV x2 y2 z2] w fun e w' => e = .returned (vecV (max (cc x) (cc x2)) (max (cc y) (cc y2)) (max (cc z) (cc z2))) ∧ Below w.heap.size w w' := by
  go_enter Try.func81, Try.ntmps81
  go_wp2
  ((first | refine region_qt2 5 (by kernel_rfl) (by kernel_rfl) ?_ | refine region_qt 5 (by kernel_rfl) (by kernel_rfl) ?_); simp only [List.take_succ_cons, List.take_zero, List.drop_succ_cons, List.drop_zero])
  repeat (quiet_step (fail))
  (refine wpQuiet_step (fun K hK => ?_); go_simp; refine ⟨_, fun zt => ext_below (impl_clamped _ _ _ _), hK _ ?_⟩; clear hK K)
  repeat (quiet_step (fail))
  (refine wpQuiet_step (fun K hK => ?_); go_simp; refine ⟨_, fun zt => ext_below (impl_clamped _ _ _ _), hK _ ?_⟩; clear hK K)
  repeat (quiet_step (fail))
  (refine wpQuiet_step (fun K hK => ?_); go_simp; refine ⟨_, fun zt => ext_below (impl_with 110 _ _ _ _ _ _ _ _ _ _ (fun _ _ _ => by kernel_rfl) (fun W _ => max1_c _ _ W) (fun W _ => max1_c _ _ W) (fun W _ => max1_c _ _ W)), hK _ ?_⟩; clear hK K)
  repeat (quiet_step (fail))
  (refine wpQuiet_nil ?_; intro X nX)
  go_wp2
  exact bodyPost_ret (v := vecV (max (cc x) (cc x2)) (max (cc y) (cc y2)) (max (cc z) (cc z2))) (by simp [results, Try.results81, go_sem]) rfl ⟨rfl, (by repeat (first | exact Below.refl _ _ | refine Below.drew ?_ | refine Below.alloc ?_ (by first | exact Nat.le_refl _ | (simp; done) | (simp; omega) | omega) _ | refine Below.more ?_ (by first | exact Nat.le_refl _ | (simp; done) | (simp; omega) | omega) _ _ | refine Below.setCell ?_ (by first | exact Nat.le_refl _ | (simp; done) | (simp; omega) | omega) _ | assumption))⟩
set_option maxRecDepth 100000 in
set_option maxHeartbeats 1000000 in
theorem impl_UnionBox (x0 y0 z0 x1 y1 z1 u0 v0 w0 u1 v1 w1 : Int) (w : World) :
    Calls Try.prog 39 #[boxV x0 y0 z0 x1 y1 z1, boxV u0 v0 w0 u1 v1 w1] w fun e w' => e = .returned (boxV (min (cc x0) (cc u0)) (min (cc y0) (cc v0)) (min (cc z0) (cc w0)) (max (cc x1) (cc u1)) (max (cc y1) (cc v1)) (max (cc z1) (cc w1))) ∧ Below w.heap.size w w' := by
  go_enter Try.func39, Try.ntmps39
  go_wp2
  ((first | refine region_qt2 11 (by kernel_rfl) (by kernel_rfl) ?_ | refine region_qt 11 (by kernel_rfl) (by kernel_rfl) ?_); simp only [List.take_succ_cons, List.take_zero, List.drop_succ_cons, List.drop_zero])
  repeat (quiet_step (fail))
  (refine wpQuiet_step (fun K hK => ?_); go_simp; refine ⟨_, fun zt => ext_below (impl_MinVec _ _ _ _ _ _ _), hK _ ?_⟩; clear hK K)
  repeat (quiet_step (fail))
  (refine wpQuiet_step (fun K hK => ?_); go_simp; refine ⟨_, fun zt => ext_below (impl_MaxVec _ _ _ _ _ _ _), hK _ ?_⟩; clear hK K)
  repeat (quiet_step (fail))
  (refine wpQuiet_nil ?_; intro X nX)
  go_wp2
  exact bodyPost_ret (v := boxV (min (cc x0) (cc u0)) (min (cc y0) (cc v0)) (min (cc z0) (cc w0)) (max (cc x1) (cc u1)) (max (cc y1) (cc v1)) (max (cc z1) (cc w1))) (by simp [results, Try.results39, go_sem]) rfl ⟨rfl, (by repeat (first | exact Below.refl _ _ | refine Below.drew ?_ | refine Below.alloc ?_ (by first | exact Nat.le_refl _ | (simp; done) | (simp; omega) | omega) _ | refine Below.more ?_ (by first | exact Nat.le_refl _ | (simp; done) | (simp; omega) | omega) _ _ | refine Below.setCell ?_ (by first | exact Nat.le_refl _ | (simp; done) | (simp; omega) | omega) _ | assumption))⟩
/-- The least and the greatest of the first k + 1, limited. -/
def loN (f : Nat → Int) : Nat → Int
  | 0 => cc (f 0)
  | k + 1 => min (cc (loN f k)) (cc (f (k + 1)))
def hiN (f : Nat → Int) : Nat → Int
  | 0 => cc (f 0)
  | k + 1 => max (cc (hiN f k)) (cc (f (k + 1)))
theorem loN_bd (f : Nat → Int) (k : Nat) : -1000000 ≤ loN f k ∧ loN f k ≤ 1000000 := by
  cases k with
  | zero => exact cc_bd _
  | succ k =>
    have h1 := cc_bd (loN f k)
    have h2 := cc_bd (f (k + 1))
    unfold loN; omega
theorem hiN_bd (f : Nat → Int) (k : Nat) : -1000000 ≤ hiN f k ∧ hiN f k ≤ 1000000 := by
  cases k with
  | zero => exact cc_bd _
  | succ k =>
    have h1 := cc_bd (hiN f k)
    have h2 := cc_bd (f (k + 1))
    unfold hiN; omega
theorem loN_le (f : Nat → Int) (k : Nat) : ∀ i, i ≤ k → loN f k ≤ cc (f i) := by
  induction k with
  | zero => intro i hi; obtain rfl : i = 0 := by omega
            exact Int.le_refl _
  | succ k ih =>
    intro i hi
    have h1 := cc_id (loN_bd f k)
    unfold loN
    rcases Nat.lt_or_ge k i with h | h
    · obtain rfl : i = k + 1 := by omega
      omega
    · have := ih i h; omega
theorem le_hiN (f : Nat → Int) (k : Nat) : ∀ i, i ≤ k → cc (f i) ≤ hiN f k := by
  induction k with
  | zero => intro i hi; obtain rfl : i = 0 := by omega
            exact Int.le_refl _
  | succ k ih =>
    intro i hi
    have h1 := cc_id (hiN_bd f k)
    unfold hiN
    rcases Nat.lt_or_ge k i with h | h
    · obtain rfl : i = k + 1 := by omega
      omega
    · have := ih i h; omega
/-- The box around the first k + 1 points. -/
@[reducible] def bndV (C : Nat → VecD) (k : Nat) : Value := boxV (loN (fun i => (C i).f0) k) (loN (fun i => (C i).f1) k) (loN (fun i => (C i).f2) k) (hiN (fun i => (C i).f0) k) (hiN (fun i => (C i).f1) k) (hiN (fun i => (C i).f2) k)
theorem inBnd (C : Nat → VecD) (k i : Nat) (hi : i ≤ k) (h : VOk (C i)) : InBox (loN (fun i => (C i).f0) k) (loN (fun i => (C i).f1) k) (loN (fun i => (C i).f2) k) (hiN (fun i => (C i).f0) k) (hiN (fun i => (C i).f1) k) (hiN (fun i => (C i).f2) k) (C i) := by
  have a1 := loN_le (fun i => (C i).f0) k i hi
  have a2 := loN_le (fun i => (C i).f1) k i hi
  have a3 := loN_le (fun i => (C i).f2) k i hi
  have b1 := le_hiN (fun i => (C i).f0) k i hi
  have b2 := le_hiN (fun i => (C i).f1) k i hi
  have b3 := le_hiN (fun i => (C i).f2) k i hi
  simp only [cc_id h.a] at a1 b1
  simp only [cc_id h.b] at a2 b2
  simp only [cc_id h.c] at a3 b3
  exact ⟨⟨a1, b1⟩, ⟨a2, b2⟩, ⟨a3, b3⟩⟩
def BoundQ (w : World) (k : Nat) (C : Nat → VecD) (e : Ending) (w' : World) : Prop := e = .returned (.tuple #[bndV C k, .bool true]) ∧ Below w.heap.size w w'
@[reducible] def boxL (x0 y0 z0 x1 y1 z1 : Int) : List Value := [.int .i64 x0, .int .i64 y0, .int .i64 z0, .int .i64 x1, .int .i64 y1, .int .i64 z1]
/-- The round of the loop: the box around the first k + 1 points lies in block b. -/
def BoundR (w : World) (b k : Nat) (C : Nat → VecD) (wr : World) : Prop :=
  wr.heap[b]? = some (.cells ⟨boxL (loN (fun i => (C i).f0) k) (loN (fun i => (C i).f1) k) (loN (fun i => (C i).f2) k) (hiN (fun i => (C i).f0) k) (hiN (fun i => (C i).f1) k) (hiN (fun i => (C i).f2) k)⟩ 71 (0, 0)) ∧
    wr.heap[w.heap.size]? = some (.cells ⟨boxL 0 0 0 0 0 0⟩ 71 (0, 0)) ∧ Below w.heap.size w wr
set_option maxRecDepth 100000 in
set_option maxHeartbeats 8000000 in
theorem impl_BoundPoints (a : Option Addr) (cap n : Nat) (C : Nat → VecD) (w : World) (hn : n + 1 ≤ cap) (hcap : cap ≤ 9223372036854775807) (hr : Sl w a 3 (n + 1) (fun i => (C i).cells)) :
    Calls Try.prog 82 #[.slice a (n + 1) cap] w (BoundQ w n C) := by
  obtain ⟨b, o, rfl, hb, hc⟩ := hr (by omega)
  have HC := Lib.hid hc
  have c0 : w.cell? ⟨b, o, none⟩ = some (.int .i64 (C 0).f0) := by have := hc 0 (by omega) 0 (by omega); simpa using this
  have c1 : w.cell? ⟨b, o + 1, none⟩ = some (.int .i64 (C 0).f1) := by have := hc 0 (by omega) 1 (by omega); simpa using this
  have c2 : w.cell? ⟨b, o + 2, none⟩ = some (.int .i64 (C 0).f2) := by have := hc 0 (by omega) 2 (by omega); simpa using this
  clear hc hr
  go_enter Try.func82, Try.ntmps82
  go_wp2
  ((first | refine region_box 9 71 (boxL 0 0 0 0 0 0) (boxL (cc (C 0).f0) (cc (C 0).f1) (cc (C 0).f2) (cc (C 0).f0) (cc (C 0).f1) (cc (C 0).f2)) (by kernel_rfl) (by kernel_rfl) ?_ | refine region_box0 9 71 (boxL 0 0 0 0 0 0) (boxL (cc (C 0).f0) (cc (C 0).f1) (cc (C 0).f2) (cc (C 0).f0) (cc (C 0).f1) (cc (C 0).f2)) (by kernel_rfl) (by kernel_rfl) ?_); simp only [List.take_succ_cons, List.take_zero, List.drop_succ_cons, List.drop_zero])
  repeat (refine headS_step (fun K hK => ?_); go_simp; refine hK _ ?_; clear hK K)
  (refine headS_step (fun K hK => ?_); go_simp; refine ⟨_, fun zt => calls_stays (impl_clamped _ _ _ _), hK _ ?_⟩; clear hK K)
  repeat (refine headS_step (fun K hK => ?_); go_simp; refine hK _ ?_; clear hK K)
  (refine headS_step (fun K hK => ?_); go_simp; refine ⟨_, fun zt => calls_stays (impl_clamped _ _ _ _), hK _ ?_⟩; clear hK K)
  repeat (refine headS_step (fun K hK => ?_); go_simp; refine hK _ ?_; clear hK K)
  refine headS_nil ?_
  refine tail_box (by go_simp) (fun X d => by go_simp) (fun b => by go_simp) (fun b w hb => by go_simp) (fun b => ?_)
  refine tail_done (fun X X2 d hb => ?_)
  simp only [World.size_alloc] at hb
  subst hb
  simp only [Act.put, List.setIfInBounds_toArray, List.set_cons_zero, List.set_cons_succ]
  have hcapn : cap = 1 → n = 0 := fun h => by omega
  by_cases hcap1 : cap = 1
  · obtain rfl : n = 0 := hcapn hcap1
    go_wp2
    refine wp_loop_rounds 1 ?_
    rw [rounds_succ]
    go_wp2
    exact bodyPost_ret (v := .tuple #[bndV C 0, .bool true]) (by simp [results, Try.results82, go_sem, loN, hiN]) rfl ⟨rfl, (by repeat (first | exact Below.refl _ _ | refine Below.drew ?_ | refine Below.alloc ?_ (by first | exact Nat.le_refl _ | (simp; done) | (simp; omega) | omega) _ | refine Below.more ?_ (by first | exact Nat.le_refl _ | (simp; done) | (simp; omega) | omega) _ _ | refine Below.setCell ?_ (by first | exact Nat.le_refl _ | (simp; done) | (simp; omega) | omega) _ | assumption))⟩
  · go_wp2
    go_loopw [23] (fun i wr => ∃ k : Nat, k ≤ n ∧ i = .int .i64 k ∧ BoundR w (w.heap.size + 1 + X.size) k C wr) (fun i _ => n - (intOf i).toNat)
    case atStart =>
      refine ⟨0, by omega, rfl, (by rw [heap_more _ (by simp)]; exact heap_at_new (by simp)), ?_, (by repeat (first | exact Below.refl _ _ | refine Below.drew ?_ | refine Below.alloc ?_ (by first | exact Nat.le_refl _ | (simp; done) | (simp; omega) | omega) _ | refine Below.more ?_ (by first | exact Nat.le_refl _ | (simp; done) | (simp; omega) | omega) _ _ | refine Below.setCell ?_ (by first | exact Nat.le_refl _ | (simp; done) | (simp; omega) | omega) _ | assumption))⟩
      · simp only [boxL]; rw [heap_more _ (by first | omega | (simp; omega)), Below.block (Below.alloc (Below.refl _ _) (Nat.le_refl _) _) _ (by first | omega | (simp; omega)), heap_more _ (by simp), heap_alloc_new]
    case round =>
      obtain ⟨k, hk, rfl, H4, H2, hbel⟩ := hrel
      have hl4 : w.heap.size + 1 + X.size < wr.heap.size := (Array.getElem?_eq_some_iff.1 H4).1
      have hl2 : w.heap.size < wr.heap.size := by omega
      have HBEL := Lib.hid hbel
      have HH2 := Lib.hid H2
      clear hbel
      have HE := Lib.hid (show ∀ k, (loN (fun i => (C i).f0) (k + 1) = min (cc (loN (fun i => (C i).f0) k)) (cc (C (k + 1)).f0)) ∧ (loN (fun i => (C i).f1) (k + 1) = min (cc (loN (fun i => (C i).f1) k)) (cc (C (k + 1)).f1)) ∧ (loN (fun i => (C i).f2) (k + 1) = min (cc (loN (fun i => (C i).f2) k)) (cc (C (k + 1)).f2)) ∧
        (hiN (fun i => (C i).f0) (k + 1) = max (cc (hiN (fun i => (C i).f0) k)) (cc (C (k + 1)).f0)) ∧ (hiN (fun i => (C i).f1) (k + 1) = max (cc (hiN (fun i => (C i).f1) k)) (cc (C (k + 1)).f1)) ∧ (hiN (fun i => (C i).f2) (k + 1) = max (cc (hiN (fun i => (C i).f2) k)) (cc (C (k + 1)).f2)) from fun k => ⟨rfl, rfl, rfl, rfl, rfl, rfl⟩)
      have HK := HE.out k
      clear HE
      have HV := Lib.hid (show bndV C k = boxV (loN (fun i => (C i).f0) k) (loN (fun i => (C i).f1) k) (loN (fun i => (C i).f2) k) (hiN (fun i => (C i).f0) k) (hiN (fun i => (C i).f1) k) (hiN (fun i => (C i).f2) k) from rfl)
      have HV2 := Lib.hid (show ∀ x0 y0 z0 x1 y1 z1, x0 = loN (fun i => (C i).f0) (k + 1) → y0 = loN (fun i => (C i).f1) (k + 1) → z0 = loN (fun i => (C i).f2) (k + 1) → x1 = hiN (fun i => (C i).f0) (k + 1) → y1 = hiN (fun i => (C i).f1) (k + 1) → z1 = hiN (fun i => (C i).f2) (k + 1) → boxL x0 y0 z0 x1 y1 z1 = boxL (loN (fun i => (C i).f0) (k + 1)) (loN (fun i => (C i).f1) (k + 1)) (loN (fun i => (C i).f2) (k + 1)) (hiN (fun i => (C i).f0) (k + 1)) (hiN (fun i => (C i).f1) (k + 1)) (hiN (fun i => (C i).f2) (k + 1)) from fun _ _ _ _ _ _ h1 h2 h3 h4 h5 h6 => by rw [h1, h2, h3, h4, h5, h6])
      generalize loN (fun i => (C i).f0) k = x0 at *
      generalize loN (fun i => (C i).f1) k = y0 at *
      generalize loN (fun i => (C i).f2) k = z0 at *
      generalize hiN (fun i => (C i).f0) k = x1 at *
      generalize hiN (fun i => (C i).f1) k = y1 at *
      generalize hiN (fun i => (C i).f2) k = z1 at *
      have HKK := Lib.hid HK
      clear HK
      by_cases hlt : k < n
      · have hk1 : (k : Int) < (n : Int) := by omega
        have hne : b ≠ w.heap.size + 1 + X.size := by omega
        have d0 : wr.cell? ⟨b, o + 3 + k * 3, none⟩ = some (.int .i64 (C (k + 1)).f0) := cell_below (HBEL.out.mono (Nat.le_refl _)) (by have := HC.out (k + 1) (by omega) 0 (by omega); rw [← show o + (k + 1) * 3 + 0 = o + 3 + k * 3 by omega]; simpa using this)
        have d1 : wr.cell? ⟨b, o + 3 + k * 3 + 1, none⟩ = some (.int .i64 (C (k + 1)).f1) := cell_below (HBEL.out.mono (Nat.le_refl _)) (by have := HC.out (k + 1) (by omega) 1 (by omega); rw [← show o + (k + 1) * 3 + 1 = o + 3 + k * 3 + 1 by omega]; simpa using this)
        have d2 : wr.cell? ⟨b, o + 3 + k * 3 + 2, none⟩ = some (.int .i64 (C (k + 1)).f2) := cell_below (HBEL.out.mono (Nat.le_refl _)) (by have := HC.out (k + 1) (by omega) 2 (by omega); rw [← show o + (k + 1) * 3 + 2 = o + 3 + k * 3 + 2 by omega]; simpa using this)
        generalize hD : C (k + 1) = D at *
        obtain ⟨u0, u1, u2⟩ := D
        dsimp only at d0 d1 d2 HKK
        clear hD
        rw [← putB_self H4]
        clear H4 H2
        go_wp2
        have hne2 : wr.heap.size ≠ w.heap.size + 1 + X.size := by omega
        refine region_box2 [(0, false), (1, true), (2, false), (3, false), (4, false), (5, true), (6, false), (7, false), (8, false)] [9, 10, 11] 9 (w.heap.size + 1 + X.size) 71 (fun m => match m with | 0 => boxL x0 y0 z0 x1 y1 z1 | 1 => boxL (min (cc x0) (cc u0)) (min (cc y0) (cc u1)) (min (cc z0) (cc u2)) x1 y1 z1 | _ => boxL (min (cc x0) (cc u0)) (min (cc y0) (cc u1)) (min (cc z0) (cc u2)) (max (cc x1) (cc u0)) (max (cc y1) (cc u1)) (max (cc z1) (cc u2))) (by kernel_rfl) (by kernel_rfl) (by rw [Below.block (Below.alloc (Below.refl _ _) (Nat.le_refl _) _) _ (by simp; omega), heap_putB hl4]; rfl) ?_
        repeat (refine headW_step rfl (fun K hK => ?_); go_simp; refine hK _ ?_; clear hK K)
        (refine headW_step rfl (fun K hK => ?_); go_simp; refine ⟨_, fun y => calls_stays (impl_MinVec _ _ _ _ _ _ _), hK _ ?_⟩; clear hK K)
        repeat (refine headW_step rfl (fun K hK => ?_); go_simp; refine hK _ ?_; clear hK K)
        (refine headW_step rfl (fun K hK => ?_); go_simp; refine ⟨_, fun y => calls_stays (impl_MaxVec _ _ _ _ _ _ _), hK _ ?_⟩; clear hK K)
        repeat (refine headW_step rfl (fun K hK => ?_); go_simp; refine hK _ ?_; clear hK K)
        refine headW_nil ?_
        refine tailW_step rfl (by go_simp) ?_
        rintro wq ⟨z, rfl⟩
        refine gives_skip (by go_simp) ⟨1, ⟨z, rfl⟩, (fun _ _ => rfl), ?_⟩
        refine tailW_step rfl (by go_simp) ?_
        rintro wq ⟨z, rfl⟩
        refine gives_value (u := .pointer (some ⟨w.heap.size + 1 + X.size, 3, none⟩)) (by go_simp) ⟨1, ⟨z, rfl⟩, (fun h => absurd h (by decide)), ?_⟩
        refine tailW_step rfl (by go_simp) ?_
        rintro wq ⟨z, rfl⟩
        refine gives_skip (by go_simp) ⟨2, ⟨z, rfl⟩, (fun h => absurd h (by decide)), ?_⟩
        refine tailW_nil ?_
        rintro wq ⟨z, rfl⟩
        simp only [Act.put, List.setIfInBounds_toArray, List.set_cons_zero, List.set_cons_succ]
        go_wp2
        go_roundw
        case rel =>
          obtain ⟨g1, g2, g3, g4, g5, g6⟩ := HKK.out
          refine ⟨k + 1, by omega, by go_num, ?_, ?_, ?_⟩
          · rw [heap_more _ (by simp; omega), heap_putB (by simp; omega)]
            exact congrArg (fun l => some (Obj.cells ⟨l⟩ 71 (0, 0))) (HV2.out _ _ _ _ _ _ g1.symm g2.symm g3.symm g4.symm g5.symm g6.symm)
          · rw [heap_more _ (by simp; omega), heap_putB_other _ (by omega), Below.block (Below.alloc (Below.refl _ _) (Nat.le_refl _) _) _ (by simp; omega), heap_putB_other _ (by omega)]
            exact HH2.out
          · refine Below.more (Below.trans ?_ (Below.putB (by omega))) (by simp; omega) _ _
            exact Below.alloc (HBEL.out.trans (Below.putB (by omega))) (by simp; omega) _
        case measure => simp [intOf]; omega
      · have hk1 : ¬ (k : Int) < (n : Int) := by omega
        obtain rfl : n = k := by omega
        have hne : w.heap.size ≠ w.heap.size + 1 + X.size := by omega
        have hne' := hne.symm
        have e2 := HH2.out
        have e3 : putB (putB wr w.heap.size (boxL 0 0 0 0 0 0) 71) (w.heap.size + 1 + X.size) (boxL x0 y0 z0 x1 y1 z1) 71 = wr := by rw [putB_self e2, putB_self H4]
        rw [← e3]
        clear H4 H2 e2 e3
        go_wp2
        exact bodyPost_ret (v := .tuple #[boxV x0 y0 z0 x1 y1 z1, .bool true]) (by simp [results, Try.results82, go_sem, hne, hne', hl2, hl4]) rfl ⟨by rw [HV.out], (HBEL.out.trans (Below.putB (Nat.le_refl _))).trans (Below.putB (by omega))⟩
end Go.Proofs.Ytkdkdejgajcneaa
