/- Edges, with Vec, ArgsIn ahead of it. -/
import Derived.Test.YtpfmcobkfofbjaaVecEach
import Derived.Test.YtpfmcobkfofbjaaSInt
import Derived.Test.YtpfmcobkfofbjaaMesh2
namespace Go.Proofs.Ytpfmcobkfofbjaa
open Go.RowKit
/-- A number is an int64. -/
def In64 (n : Int) : Prop := -9223372036854775808 ≤ n ∧ n ≤ 9223372036854775807
theorem flip_same {P : Program} {f : FuncId} {args : Array Value} {w : World} {v : Value} (h : Calls P f args w fun e w' => e = .returned v ∧ w = w') : Calls P f args w fun e w' => e = .returned v ∧ w' = w :=
  h.mono fun _ _ ⟨a, b⟩ => ⟨a, b.symm⟩
theorem impl_clamped (x y z : Int) (w : World) :
    Calls Try.prog 17 #[vecV x y z] w fun e w' => e = .returned (vecV (cc x) (cc y) (cc z)) ∧ Below w.heap.size w w' := by
  go_enter Try.func17, Try.ntmps17
  go_wp2_with fail
  refine (impl_each 37 #[] x y z (cc x) (cc y) (cc z) _ (fun _ _ => by kernel_rfl) (fun W _ => (clamped1_c x W).mono fun _ _ ⟨h, h'⟩ => ⟨h, h'.symm⟩) (fun W _ => (clamped1_c y W).mono fun _ _ ⟨h, h'⟩ => ⟨h, h'.symm⟩) (fun W _ => (clamped1_c z W).mono fun _ _ ⟨h, h'⟩ => ⟨h, h'.symm⟩)).mono ?_
  rintro e wn ⟨rfl, hbn⟩; obtain ⟨X, nX, rfl⟩ := Below.ext hbn; clear hbn
  go_wp2
  exact bodyPost_ret (v := vecV (cc x) (cc y) (cc z)) (by simp [results, Try.results17, go_sem]) rfl ⟨rfl, (by repeat (first | exact Below.refl _ _ | refine Below.drew ?_ | refine Below.alloc ?_ (by first | exact Nat.le_refl _ | (simp; done) | (simp; omega) | omega) _ | refine Below.more ?_ (by first | exact Nat.le_refl _ | (simp; done) | (simp; omega) | omega) _ _ | refine Below.setCell ?_ (by first | exact Nat.le_refl _ | (simp; done) | (simp; omega) | omega) _ | assumption))⟩
theorem times1_c (x k : Int) (b : Nat) (w : World) (hk : w.cell? ⟨b, 0, none⟩ = some (.int .i64 k)) (h1 : -9223372036854775808 ≤ k * x) (h2 : k * x ≤ 9223372036854775807) :
    Calls Try.prog 62 #[.int .i64 x, .pointer (some ⟨b, 0, none⟩)] w fun e w' => e = .returned (.int .i64 (k * x)) ∧ w' = w := by
  go_enter Try.func62, Try.ntmps62
  go_wp2
  go_ret
  exact ⟨rfl, rfl⟩
theorem impl_times (x y z k : Int) (w : World) (hx : In64 (k * x)) (hy : In64 (k * y)) (hz : In64 (k * z)) :
    Calls Try.prog 46 #[vecV x y z, .int .i64 k] w fun e w' => e = .returned (vecV (k * x) (k * y) (k * z)) ∧ Below w.heap.size w w' := by
  go_enter Try.func46, Try.ntmps46
  go_wp2_with fail
  refine (impl_each 62 #[.pointer (some ⟨w.heap.size + 1, 0, none⟩)] x y z (k * x) (k * y) (k * z) _ (fun _ _ => by kernel_rfl) ?_ ?_ ?_).mono ?_
  · exact fun W hb => times1_c x k _ W (by rw [hb.cell (by simp)]; simp [go_sem]) hx.1 hx.2
  · exact fun W hb => times1_c y k _ W (by rw [hb.cell (by simp)]; simp [go_sem]) hy.1 hy.2
  · exact fun W hb => times1_c z k _ W (by rw [hb.cell (by simp)]; simp [go_sem]) hz.1 hz.2
  rintro e wn ⟨rfl, hbn⟩; obtain ⟨X, nX, rfl⟩ := Below.ext hbn; clear hbn
  go_wp2
  exact bodyPost_ret (v := vecV (k * x) (k * y) (k * z)) (by simp [results, Try.results46, go_sem]) rfl ⟨rfl, (by repeat (first | exact Below.refl _ _ | refine Below.drew ?_ | refine Below.alloc ?_ (by first | exact Nat.le_refl _ | (simp; done) | (simp; omega) | omega) _ | refine Below.more ?_ (by first | exact Nat.le_refl _ | (simp; done) | (simp; omega) | omega) _ _ | refine Below.setCell ?_ (by first | exact Nat.le_refl _ | (simp; done) | (simp; omega) | omega) _ | assumption))⟩
theorem over1_c (x k : Int) (b : Nat) (w : World) (hk : w.cell? ⟨b, 0, none⟩ = some (.int .i64 k)) (h : In64 x) :
    Calls Try.prog 64 #[.int .i64 x, .pointer (some ⟨b, 0, none⟩)] w fun e w' => e = .returned (.int .i64 (fdivI x k)) ∧ w' = w := by
  go_enter Try.func64, Try.ntmps64
  go_wp2_with (go_at_call 65; refine (impl_FloorDiv _ _ _ h.1 h.2).mono ?_; rintro e w' ⟨rfl, rfl⟩)
  go_ret
  exact ⟨rfl, rfl⟩
theorem impl_over (x y z k : Int) (w : World) (hx : In64 x) (hy : In64 y) (hz : In64 z) :
    Calls Try.prog 48 #[vecV x y z, .int .i64 k] w fun e w' => e = .returned (vecV (fdivI x k) (fdivI y k) (fdivI z k)) ∧ Below w.heap.size w w' := by
  go_enter Try.func48, Try.ntmps48
  go_wp2_with fail
  refine (impl_each 64 #[.pointer (some ⟨w.heap.size + 1, 0, none⟩)] x y z (fdivI x k) (fdivI y k) (fdivI z k) _ (fun _ _ => by kernel_rfl) ?_ ?_ ?_).mono ?_
  · exact fun W hb => over1_c x k _ W (by rw [hb.cell (by simp)]; simp [go_sem]) hx
  · exact fun W hb => over1_c y k _ W (by rw [hb.cell (by simp)]; simp [go_sem]) hy
  · exact fun W hb => over1_c z k _ W (by rw [hb.cell (by simp)]; simp [go_sem]) hz
  rintro e wn ⟨rfl, hbn⟩; obtain ⟨X, nX, rfl⟩ := Below.ext hbn; clear hbn
  go_wp2
  exact bodyPost_ret (v := vecV (fdivI x k) (fdivI y k) (fdivI z k)) (by simp [results, Try.results48, go_sem]) rfl ⟨rfl, (by repeat (first | exact Below.refl _ _ | refine Below.drew ?_ | refine Below.alloc ?_ (by first | exact Nat.le_refl _ | (simp; done) | (simp; omega) | omega) _ | refine Below.more ?_ (by first | exact Nat.le_refl _ | (simp; done) | (simp; omega) | omega) _ _ | refine Below.setCell ?_ (by first | exact Nat.le_refl _ | (simp; done) | (simp; omega) | omega) _ | assumption))⟩
theorem plus1_c (x y : Int) (w : World) (h1 : -9223372036854775808 ≤ x + y) (h2 : x + y ≤ 9223372036854775807) :
    Calls Try.prog 63 #[.int .i64 x, .int .i64 y] w fun e w' => e = .returned (.int .i64 (x + y)) ∧ w' = w := by
  go_enter Try.func63, Try.ntmps63
  go_wp2
  go_ret
  exact ⟨rfl, rfl⟩
theorem impl_plus (x y z x2 y2 z2 : Int) (w : World) (hx : In64 (x + x2)) (hy : In64 (y + y2)) (hz : In64 (z + z2)) :
    Calls Try.prog 47 #[vecV x y z, vecV x2 y2 z2] w fun e w' => e = .returned (vecV (x + x2) (y + y2) (z + z2)) ∧ Below w.heap.size w w' := by
  go_enter Try.func47, Try.ntmps47
  go_wp2_with fail
  refine (impl_with 63 x y z x2 y2 z2 (x + x2) (y + y2) (z + z2) _ (fun _ _ _ => by kernel_rfl) (fun W _ => plus1_c x x2 W hx.1 hx.2) (fun W _ => plus1_c y y2 W hy.1 hy.2) (fun W _ => plus1_c z z2 W hz.1 hz.2)).mono ?_
  rintro e wn ⟨rfl, hbn⟩; obtain ⟨X, nX, rfl⟩ := Below.ext hbn; clear hbn
  go_wp2
  exact bodyPost_ret (v := vecV (x + x2) (y + y2) (z + z2)) (by simp [results, Try.results47, go_sem]) rfl ⟨rfl, (by repeat (first | exact Below.refl _ _ | refine Below.drew ?_ | refine Below.alloc ?_ (by first | exact Nat.le_refl _ | (simp; done) | (simp; omega) | omega) _ | refine Below.more ?_ (by first | exact Nat.le_refl _ | (simp; done) | (simp; omega) | omega) _ _ | refine Below.setCell ?_ (by first | exact Nat.le_refl _ | (simp; done) | (simp; omega) | omega) _ | assumption))⟩
/-- All parts are coordinates. -/
def vecOk (x y z : Int) : Bool := inB x (-1000000) 1000000 && inB y (-1000000) 1000000 && inB z (-1000000) 1000000
theorem cc_eq {x : Int} : (x = cc x) ↔ inB x (-1000000) 1000000 = true := by rw [inB_true]; simp only [cc, clampI]; omega
theorem vecOk_eq (x y z : Int) : vecEq x y z (cc x) (cc y) (cc z) = vecOk x y z := by
  rw [Bool.eq_iff_iff, vecEq_iff]
  simp only [vecOk, cc_eq, Bool.and_eq_true, and_assoc]
set_option maxRecDepth 100000 in
theorem impl_IsValidVec (x y z : Int) (w : World) : Calls Try.prog 29 #[vecV x y z] w fun e w' => e = .returned (.bool (vecOk x y z)) ∧ Below w.heap.size w w' := by
  go_enter Try.func29, Try.ntmps29
  go_wp2
  go_region_with (go_at_call 17; refine (impl_clamped _ _ _ _).mono ?_; rintro e wn ⟨rfl, hbn⟩; obtain ⟨X, nX, rfl⟩ := Below.ext hbn; clear hbn)
  all_goals (go_wp2; go_ret; exact ⟨ret_bool (vecOk_eq x y z), (by repeat (first | exact Below.refl _ _ | refine Below.drew ?_ | refine Below.alloc ?_ (by first | exact Nat.le_refl _ | (simp; done) | (simp; omega) | omega) _ | refine Below.more ?_ (by first | exact Nat.le_refl _ | (simp; done) | (simp; omega) | omega) _ _ | refine Below.setCell ?_ (by first | exact Nat.le_refl _ | (simp; done) | (simp; omega) | omega) _ | assumption))⟩)
end Go.Proofs.Ytpfmcobkfofbjaa
namespace Go.Proofs.Ytpfmcobkfofbjaa
open Go.RowKit
def argsIn (l : List Int) (lo hi : Int) : Prop := ∀ i, i < l.length → lo ≤ l.getD i 0 ∧ l.getD i 0 ≤ hi
open Classical in
noncomputable def argsInB (l : List Int) (lo hi : Int) : Bool := decide (argsIn l lo hi)
theorem argsInB_no {l : List Int} {lo hi : Int} {k : Nat} (h : k < l.length) (hn : inB (l.getD k 0) lo hi = false) : argsInB l lo hi = false := by
  simp only [argsInB, decide_eq_false_iff_not]
  exact fun ha => inB_false.1 hn (ha k h)
theorem argsInB_all {l : List Int} {lo hi : Int} (h : argsIn l lo hi) : argsInB l lo hi = true := by
  simp only [argsInB, decide_eq_true_eq]; exact h
set_option maxRecDepth 100000 in
theorem allWithin_c (a : Option Addr) (cap : Nat) (l : List Int) (n : Nat) (HN : Hid (l.length = n)) (lo hi : Int) (w : World) (hr : Sl w a 1 n (intAt l)) (hn : n ≤ 1048576) :
    Calls Try.prog 52 #[.slice a n cap, .int .i64 lo, .int .i64 hi] w fun e w' => e = .returned (.bool (argsInB l lo hi)) ∧ w = w' := by
  have HR := Lib.hid hr
  clear hr
  go_enter Try.func52, Try.ntmps52
  go_wp2
  go_loop [11] (fun i => ∃ (k : Nat), k ≤ n ∧ i = .int .i64 k ∧ Hid (∀ j, j < k → lo ≤ l.getD j 0 ∧ l.getD j 0 ≤ hi)) (fun i => n - (intOf i).toNat)
  case atStart => exact ⟨0, by omega, rfl, Lib.hid fun j hj => by omega⟩
  case round =>
    obtain ⟨k, hk, rfl, HALL⟩ := hrel
    by_cases hlt : k < n
    · have hk1 : (k : Int) < (n : Int) := by omega
      obtain ⟨b, o, rfl, hb, hc⟩ := HR.out (by omega)
      have c0 : w.cell? ⟨b, o + k, none⟩ = some (.int .i64 (l.getD k 0)) := by
        have := hc k hlt 0 (by omega)
        rw [Nat.mul_one, Nat.add_zero] at this
        rw [this]; simp [intAt]
      clear hc
      have HNO := Lib.hid (fun h => argsInB_no (l := l) (lo := lo) (hi := hi) (k := k) (by rw [HN.out]; exact hlt) h)
      have HYES := Lib.hid (show inB (l.getD k 0) lo hi = true → ∀ j, j < k + 1 → lo ≤ l.getD j 0 ∧ l.getD j 0 ≤ hi from fun h j hj => by
        by_cases hjk : j = k
        · subst hjk; exact inB_true.1 h
        · exact HALL.out j (by omega))
      generalize l.getD k 0 = x at *
      cases hin : inB x lo hi
      · go_wp2_with (go_at_call 68; refine (within_c _ _ _ _).mono ?_; rw [hin]; rintro e w' ⟨rfl, rfl⟩)
        go_ret
        exact ⟨ret_bool (HNO.out hin).symm, rfl⟩
      · go_wp2_with (go_at_call 68; refine (within_c _ _ _ _).mono ?_; rw [hin]; rintro e w' ⟨rfl, rfl⟩)
        go_round
        case rel => exact ⟨k + 1, by omega, rfl, Lib.hid (HYES.out hin)⟩
        case measure => simp only [intOf]; omega
    · have hk1 : ¬ (k : Int) < (n : Int) := by omega
      have HE := Lib.hid (argsInB_all (l := l) (lo := lo) (hi := hi) fun j hj => HALL.out j (by rw [HN.out] at hj; omega))
      go_wp2
      go_ret
      exact ⟨ret_bool HE.out.symm, rfl⟩
end Go.Proofs.Ytpfmcobkfofbjaa
namespace Go.Proofs.Ytpfmcobkfofbjaa
open Go Go.RowKit
def stepAt (f : List Int) (i : Nat) : Int × Int := (f.getD i 0, f.getD ((i + 1) % f.length) 0)
def stepsTo (f : List Int) (j : Nat) : List (Int × Int) := (List.range j).map (stepAt f)
def stepsOf (f : List Int) : List (Int × Int) := stepsTo f f.length
theorem stepsTo_succ (f : List Int) (j : Nat) : stepsTo f (j + 1) = stepsTo f j ++ [stepAt f j] := by simp [stepsTo, List.range_succ]
@[simp] theorem stepsTo_len (f : List Int) (j : Nat) : (stepsTo f j).length = j := by simp [stepsTo]
def edgesTo (l : List (List Int)) (k : Nat) : List (Int × Int) := ((List.range k).map fun i => stepsOf (faceAt l i)).flatten
theorem edgesTo_succ (l : List (List Int)) (k : Nat) : edgesTo l (k + 1) = edgesTo l k ++ stepsOf (faceAt l k) := by simp [edgesTo, List.range_succ]
theorem edgesTo_len {l : List (List Int)} : ∀ {k : Nat}, (∀ i, i < k → (faceAt l i).length = 4) → (edgesTo l k).length = 4 * k
  | 0, _ => rfl
  | k + 1, h => by
    rw [edgesTo_succ, List.length_append, edgesTo_len (fun i hi => h i (by omega)), stepsOf, stepsTo_len, h k (by omega)]; omega
theorem prefix_chain {α : Type} {P : Nat → List α} (h : ∀ k, P k <+: P (k + 1)) : ∀ {k n : Nat}, k ≤ n → P k <+: P n := by
  intro k n hkn
  induction hkn with
  | refl => exact List.prefix_refl _
  | step _ ih => exact ih.trans (h _)
theorem stepsTo_prefix (f : List Int) {j n : Nat} (h : j ≤ n) : stepsTo f j <+: stepsTo f n :=
  prefix_chain (P := stepsTo f) (fun k => ⟨_, (stepsTo_succ f k).symm⟩) h
theorem edgesTo_prefix (l : List (List Int)) {k n : Nat} (h : k ≤ n) : edgesTo l k <+: edgesTo l n :=
  prefix_chain (P := edgesTo l) (fun k => ⟨_, (edgesTo_succ l k).symm⟩) h
def faceOk (nV : Nat) (f : List Int) : Prop := f.length = 4 ∧ argsIn f 0 ((nV : Int) - 1) ∧ ∀ i j, i < j → j < f.length → f.getD i 0 ≠ f.getD j 0
open Classical in
noncomputable def faceOkB (nV : Nat) (f : List Int) : Bool := decide (faceOk nV f)
theorem faceOkB_true {nV : Nat} {f : List Int} : faceOkB nV f = true ↔ faceOk nV f := by simp [faceOkB]
theorem faceOkB_false {nV : Nat} {f : List Int} : faceOkB nV f = false ↔ ¬ faceOk nV f := by simp [faceOkB]
def vecOkD (x : VecD) : Bool := vecOk x.f0 x.f1 x.f2
def meshOk (p : MeshD) : Prop := p.nV ≤ 80 ∧ p.nF ≤ 64 ∧ (∀ i, i < p.nV → vecOkD (p.verts.getD i default) = true) ∧ (∀ i, i < p.nF → faceOk p.nV (faceAt p.faces i)) ∧ (edgesTo p.faces p.nF).Nodup
open Classical in
noncomputable def meshOkB (p : MeshD) : Bool := decide (meshOk p)
theorem meshOkB_true {p : MeshD} : meshOkB p = true ↔ meshOk p := by simp [meshOkB]
theorem meshOkB_no {p : MeshD} (h : ¬ meshOk p) : meshOkB p = false := by simpa [meshOkB] using h
theorem mesh_bigV {p : MeshD} (h : 80 < p.nV) : meshOkB p = false := meshOkB_no fun ha => by have := ha.1; omega
theorem mesh_bigF {p : MeshD} (h : 64 < p.nF) : meshOkB p = false := meshOkB_no fun ha => by have := ha.2.1; omega
theorem mesh_vert {p : MeshD} {i : Nat} (h : i < p.nV) (hn : vecOkD (p.verts.getD i default) = false) : meshOkB p = false :=
  meshOkB_no fun ha => by have := ha.2.2.1 i h; rw [hn] at this; cases this
theorem mesh_face {p : MeshD} {i : Nat} (h : i < p.nF) (hn : faceOkB p.nV (faceAt p.faces i) = false) : meshOkB p = false :=
  meshOkB_no fun ha => faceOkB_false.1 hn (ha.2.2.2.1 i h)
theorem mesh_dup {p : MeshD} {k j : Nat} (hk : k < p.nF) (hj : j < (faceAt p.faces k).length) (h : stepAt (faceAt p.faces k) j ∈ edgesTo p.faces k ++ stepsTo (faceAt p.faces k) j) : meshOkB p = false := by
  refine meshOkB_no fun ha => ?_
  have h1 : edgesTo p.faces k ++ stepsTo (faceAt p.faces k) (j + 1) <+: edgesTo p.faces p.nF := by
    refine List.IsPrefix.trans ?_ (edgesTo_prefix p.faces (show k + 1 ≤ p.nF by omega))
    rw [edgesTo_succ]
    exact (List.prefix_append_right_inj _).2 (stepsTo_prefix _ (by omega))
  have h2 := List.Nodup.sublist h1.sublist ha.2.2.2.2
  rw [stepsTo_succ, ← List.append_assoc, List.nodup_append] at h2
  exact h2.2.2 _ h _ (by simp) rfl
theorem mesh_all {p : MeshD} (h1 : p.nV ≤ 80) (h2 : p.nF ≤ 64) (h3 : ∀ i, i < p.nV → vecOkD (p.verts.getD i default) = true) (h4 : ∀ i, i < p.nF → faceOkB p.nV (faceAt p.faces i) = true) (h5 : (edgesTo p.faces p.nF).Nodup) : meshOkB p = true :=
  meshOkB_true.2 ⟨h1, h2, h3, fun i hi => faceOkB_true.1 (h4 i hi), h5⟩
theorem nodup_snoc {α : Type} {L : List α} {x : α} (h : L.Nodup) (hx : x ∉ L) : (L ++ [x]).Nodup := by
  rw [List.nodup_append]
  refine ⟨h, by simp, fun a ha b hb => ?_⟩
  simp only [List.mem_singleton] at hb
  subst hb
  exact fun e => hx (e ▸ ha)
theorem mesh_len4 {nV : Nat} {f : List Int} (h : faceOkB nV f = true) : f.length = 4 := (faceOkB_true.1 h).1
end Go.Proofs.Ytpfmcobkfofbjaa
