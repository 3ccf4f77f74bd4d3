/- The walk of the law FnCamera: points on the focal plane are projected to the same position from every lens position. -/
import Derived.Test.YtdkjiafdfenbkaaDoorCamEq
import Derived.Test.YtdkjiafdfenbkaaDoorMakeVec
import Derived.Test.YtdkjiafdfenbkaaDoorPutO
import Derived.Test.YtdkjiafdfenbkaaDoorOpen
import Derived.Deep.RegionHeld3
import Derived.Deep.DeepCutAuto
namespace Go.Proofs.YtdkjiafdfenbkaaDoor
open Go Go.RowKit Go.ChangeShapes
set_option linter.unusedVariables false
/-- The camera's and the vector's cells. -/
def SCam (C V : Nat) (cs vs : List Value) (w : World) : Prop := w.heap[C]? = some (.cells ⟨cs⟩ 31 (0, 0)) ∧ w.heap[V]? = some (.cells ⟨vs⟩ 41 (0, 0))
theorem SCam.below {C V : Nat} {cs vs : List Value} {w w' : World} (h : SCam C V cs vs w) (hb : Below w.heap.size w w') : SCam C V cs vs w' :=
  ⟨(hb.block C (Array.getElem?_eq_some_iff.1 h.1).1).trans h.1, (hb.block V (Array.getElem?_eq_some_iff.1 h.2).1).trans h.2⟩
theorem heap_setc_other {w : World} {U : Nat} (j : Nat) (v : Value) (k : Nat) (hk : k ≠ U) : (w.setCell ⟨U, j, none⟩ v).heap[k]? = w.heap[k]? := by
  simp only [World.setCell]
  rw [Array.getElem?_modify, if_neg (Ne.symm hk)]
theorem SCam.set3 {C V B : Nat} {cs vs : List Value} {w : World} {u0 u1 u2 : Value} (h : SCam C V cs vs w) (h1 : C ≠ B) (h2 : V ≠ B) : SCam C V cs vs (((w.setCell ⟨B, 0, none⟩ u0).setCell ⟨B, 1, none⟩ u1).setCell ⟨B, 2, none⟩ u2) :=
  ⟨by rw [heap_setc_other _ _ _ h1, heap_setc_other _ _ _ h1, heap_setc_other _ _ _ h1]; exact h.1, by rw [heap_setc_other _ _ _ h2, heap_setc_other _ _ _ h2, heap_setc_other _ _ _ h2]; exact h.2⟩
theorem SCam.cells {C V : Nat} {a0 a1 a2 a3 a4 a5 a6 b0 b1 b2 : Value} {w : World} (h : SCam C V [a0, a1, a2, a3, a4, a5, a6] [b0, b1, b2] w) : w.cell? ⟨C, 0, none⟩ = some a0 ∧ w.cell? ⟨C, 1, none⟩ = some a1 ∧ w.cell? ⟨C, 2, none⟩ = some a2 ∧ w.cell? ⟨C, 3, none⟩ = some a3 ∧ w.cell? ⟨C, 4, none⟩ = some a4 ∧ w.cell? ⟨C, 5, none⟩ = some a5 ∧ w.cell? ⟨C, 6, none⟩ = some a6 ∧ w.cell? ⟨V, 0, none⟩ = some b0 ∧ w.cell? ⟨V, 1, none⟩ = some b1 ∧ w.cell? ⟨V, 2, none⟩ = some b2 :=
  ⟨(cell_of_row w _ 0 _ _ (0, 0) h.1).trans rfl, (cell_of_row w _ 1 _ _ (0, 0) h.1).trans rfl, (cell_of_row w _ 2 _ _ (0, 0) h.1).trans rfl, (cell_of_row w _ 3 _ _ (0, 0) h.1).trans rfl, (cell_of_row w _ 4 _ _ (0, 0) h.1).trans rfl, (cell_of_row w _ 5 _ _ (0, 0) h.1).trans rfl, (cell_of_row w _ 6 _ _ (0, 0) h.1).trans rfl, (cell_of_row w _ 0 _ _ (0, 0) h.2).trans rfl, (cell_of_row w _ 1 _ _ (0, 0) h.2).trans rfl, (cell_of_row w _ 2 _ _ (0, 0) h.2).trans rfl⟩
theorem set3_block {B : Nat} {w : World} {z0 z1 z2 u0 u1 u2 : Value} {T : TypeId} (h : w.heap[B]? = some (.cells ⟨[z0, z1, z2]⟩ T (0, 0))) :
    (((w.setCell ⟨B, 0, none⟩ u0).setCell ⟨B, 1, none⟩ u1).setCell ⟨B, 2, none⟩ u2) = putB w B [u0, u1, u2] T := by
  have hl := (Array.getElem?_eq_some_iff.1 h).1
  have e0 := setCell_putB (arr := [z0, z1, z2]) (e := T) 0 u0 hl
  rw [putB_self h] at e0
  rw [e0, setCell_putB _ _ hl, setCell_putB _ _ hl]
  rfl
set_option maxRecDepth 100000 in
set_option maxHeartbeats 8000000 in
theorem law_Camera {H : Type} {enc : TypeId × Value → H} {W : World} {base : Nat} {v0 : Value} {d0 : DataW H} {p0 : List MemPlace} (hT : Tabs W)
    (k0 : Value.okWide Tryd.prog W .any base 38 v0) (h0 : DataW.Trod enc Tryd.prog W 0 (fun _ => true) true 38 v0 d0 p0) :
    Calls Tryd.prog 6 #[v0] W fun e W' => e = .returned (.bool true) ∧ Below W.heap.size W W' := by
  obtain ⟨a, cap, C, n, rfl, HB, hn⟩ := open_bytes k0 h0
  have HT := Lib.hid hT
  clear k0 h0 hT
  by_cases hbig : n ≤ 1048576
  case neg =>
    have hb1 : (n : Int) > 1048576 := by omega
    go_enter Tryd.func6, Tryd.ntmps6
    go_wp2
    go_ret
    exact ⟨rfl, (by repeat (first | exact Below.refl _ _ | refine Below.drew ?_ | refine Below.alloc ?_ (by first | exact Nat.le_refl _ | (simp; done) | (simp; omega) | omega) _ | refine Below.more ?_ (by first | exact Nat.le_refl _ | (simp; done) | (simp; omega) | omega) _ _ | refine Below.setCell ?_ (by first | exact Nat.le_refl _ | (simp; done) | (simp; omega) | omega) _ | assumption))⟩
  have hb1 : ¬ (n : Int) > 1048576 := by omega
  go_enter Tryd.func6, Tryd.ntmps6
  go_wp2_with fail
  refine (MakeCamera_c a n cap C _ HB.out hbig).mono ?_
  rintro e w1 ⟨cW, cH, cZ, cN, cD, cL, cF, hcb, rfl, B1⟩
  have hs1 := B1.size
  have HCAM := Lib.hid (show camOk cW cH cZ cN cL cF = true by
    obtain ⟨⟨_, _⟩, ⟨_, _⟩, ⟨_, _⟩, ⟨_, _⟩, ⟨_, _⟩, ⟨_, _⟩⟩ := hcb
    simp only [camOk, Bool.and_eq_true, inB_true]
    omega)
  obtain ⟨_, _, _, ⟨cn1, cn2⟩, _, ⟨cf1, cf2⟩⟩ := hcb
  have HFM := Lib.hid (impl_FormatCamera_c cW cH cZ cN cD cL cF)
  have HPC := Lib.hid (fun w h1 => parseC_cam (D := cD) HCAM.out ▸ impl_ParseCamera_c (camB cW cH cZ cN cD cL cF) w h1 (camB_size cW cH cZ cN cD cL cF))
  generalize camB cW cH cZ cN cD cL cF = T at *
  have B1' := Lib.hid (Below.alloc B1 hs1 (.cells #[.int .i64 cW, .int .i64 cH, .int .i64 cZ, .int .i64 cN, .bool cD, .int .i64 cL, .int .i64 cF] 31))
  clear B1
  go_wp2_with fail
  refine (HFM.out _ ((HT.out.below B1'.out).tab)).mono ?_
  rintro e w2 ⟨rfl, b2⟩
  have hc2 : w2.heap[w1.heap.size]? = some (.cells #[.int .i64 cW, .int .i64 cH, .int .i64 cZ, .int .i64 cN, .bool cD, .int .i64 cL, .int .i64 cF] 31 (0, 0)) := by rw [b2.block _ (by simp), heap_alloc_new]
  have B2 := Lib.hid (B1'.out.trans (b2.mono (by simp; omega)))
  have hs2 := B2.out.size
  have hl2 : w1.heap.size < w2.heap.size := (Array.getElem?_eq_some_iff.1 hc2).1
  clear b2
  go_wp2_with fail
  refine (HPC.out _ (HT.out.below B2.out)).mono ?_
  rintro e w3 ⟨rfl, b3⟩
  have hc3 : w3.heap[w1.heap.size]? = some (.cells #[.int .i64 cW, .int .i64 cH, .int .i64 cZ, .int .i64 cN, .bool cD, .int .i64 cL, .int .i64 cF] 31 (0, 0)) := by rw [b3.block _ hl2]; exact hc2
  have B3 := B2.out.trans (b3.mono hs2)
  have hs3 := B3.size
  have hl3 : w1.heap.size < w3.heap.size := (Array.getElem?_eq_some_iff.1 hc3).1
  have B3' := Lib.hid (Below.alloc B3 hs3 (.cells #[.int .i64 cW, .int .i64 cH, .int .i64 cZ, .int .i64 cN, .bool cD, .int .i64 cL, .int .i64 cF] 31))
  have HC3 := Lib.hid hc3
  clear b3 B3 hc2 hc3 HPC HFM
  simp only [camOpt, Option.isSome]
  go_wp2_with fail
  refine (MakeVec_c a n cap C _ (HB.out.below B3'.out) hbig).mono ?_
  rintro e w4 ⟨x, y, z, hx, hy, hz, rfl, b4⟩
  have hc4 : w4.heap[w1.heap.size]? = some (.cells #[.int .i64 cW, .int .i64 cH, .int .i64 cZ, .int .i64 cN, .bool cD, .int .i64 cL, .int .i64 cF] 31 (0, 0)) := by rw [b4.block _ (by simp; omega), Below.block (Below.alloc (Below.refl _ _) (Nat.le_refl _) _) _ hl3]; exact HC3.out
  have hd4 : w4.heap[w3.heap.size]? = some (.cells #[.int .i64 cW, .int .i64 cH, .int .i64 cZ, .int .i64 cN, .bool cD, .int .i64 cL, .int .i64 cF] 31 (0, 0)) := by rw [b4.block _ (by simp), heap_alloc_new]
  have B4 := B3'.out.trans (b4.mono (by simp; omega))
  have hs4 := B4.size
  have hl4 : w3.heap.size < w4.heap.size := (Array.getElem?_eq_some_iff.1 hd4).1
  have hl41 : w1.heap.size < w4.heap.size := (Array.getElem?_eq_some_iff.1 hc4).1
  have B4' := Lib.hid (Below.alloc B4 hs4 (.cells #[.int .i64 x, .int .i64 y, .int .i64 z] 41))
  have c0 : w4.cell? ⟨w1.heap.size, 0, none⟩ = some (.int .i64 cW) := by rw [cell_of_row w4 _ 0 _ _ (0, 0) hc4]; rfl
  have d0 : w4.cell? ⟨w3.heap.size, 0, none⟩ = some (.int .i64 cW) := by rw [cell_of_row w4 _ 0 _ _ (0, 0) hd4]; rfl
  have c1 : w4.cell? ⟨w1.heap.size, 1, none⟩ = some (.int .i64 cH) := by rw [cell_of_row w4 _ 1 _ _ (0, 0) hc4]; rfl
  have d1 : w4.cell? ⟨w3.heap.size, 1, none⟩ = some (.int .i64 cH) := by rw [cell_of_row w4 _ 1 _ _ (0, 0) hd4]; rfl
  have c2 : w4.cell? ⟨w1.heap.size, 2, none⟩ = some (.int .i64 cZ) := by rw [cell_of_row w4 _ 2 _ _ (0, 0) hc4]; rfl
  have d2 : w4.cell? ⟨w3.heap.size, 2, none⟩ = some (.int .i64 cZ) := by rw [cell_of_row w4 _ 2 _ _ (0, 0) hd4]; rfl
  have c3 : w4.cell? ⟨w1.heap.size, 3, none⟩ = some (.int .i64 cN) := by rw [cell_of_row w4 _ 3 _ _ (0, 0) hc4]; rfl
  have d3 : w4.cell? ⟨w3.heap.size, 3, none⟩ = some (.int .i64 cN) := by rw [cell_of_row w4 _ 3 _ _ (0, 0) hd4]; rfl
  have c5 : w4.cell? ⟨w1.heap.size, 5, none⟩ = some (.int .i64 cL) := by rw [cell_of_row w4 _ 5 _ _ (0, 0) hc4]; rfl
  have d5 : w4.cell? ⟨w3.heap.size, 5, none⟩ = some (.int .i64 cL) := by rw [cell_of_row w4 _ 5 _ _ (0, 0) hd4]; rfl
  have c6 : w4.cell? ⟨w1.heap.size, 6, none⟩ = some (.int .i64 cF) := by rw [cell_of_row w4 _ 6 _ _ (0, 0) hc4]; rfl
  have d6 : w4.cell? ⟨w3.heap.size, 6, none⟩ = some (.int .i64 cF) := by rw [cell_of_row w4 _ 6 _ _ (0, 0) hd4]; rfl
  have c4 : w4.cell? ⟨w1.heap.size, 4, none⟩ = some (.bool cD) := by rw [cell_of_row w4 _ 4 _ _ (0, 0) hc4]; rfl
  have d4 : w4.cell? ⟨w3.heap.size, 4, none⟩ = some (.bool cD) := by rw [cell_of_row w4 _ 4 _ _ (0, 0) hd4]; rfl
  have B4 := Lib.hid B4
  have HC4 := Lib.hid hc4
  have HD4 := Lib.hid hd4
  clear b4 hc4 hd4 HC3 B3' B2 B1'
  have HB4 := Lib.hid (HB.out.below B4'.out)
  have hn14 : ¬ w1.heap.size = w4.heap.size := by omega
  have hn41 : ¬ w4.heap.size = w1.heap.size := by omega
  go_wp2
  go_region_held3 (fun w' => w'.cell? ⟨w1.heap.size, 3, none⟩ = some (.int .i64 cN)) (first | assumption | go_keep) (first | (go_at_call 21; refine (MakeNum_k a n cap C 2 _ (HB4.out.below (by repeat (first | exact Below.refl _ _ | refine Below.drew ?_ | refine Below.alloc ?_ (by first | exact Nat.le_refl _ | (simp; done) | (simp; omega) | omega) _ | refine Below.more ?_ (by first | exact Nat.le_refl _ | (simp; done) | (simp; omega) | omega) _ _ | refine Below.setCell ?_ (by first | exact Nat.le_refl _ | (simp; done) | (simp; omega) | omega) _ | assumption))) hbig (by omega) (by omega)).mono ?_; rintro e w5 ⟨u, u1, u2, rfl, b5⟩; have qu := Int.tmod_eq_emod_of_nonneg (b := 300) u1; have c35 := cell_below b5 (show World.cell? _ ⟨w1.heap.size, 3, none⟩ = some (.int .i64 cN) by first | assumption | go_keep); have hv5 : w5.heap[w4.heap.size]? = some (.cells #[.int .i64 x, .int .i64 y, .int .i64 z] 41 (0, 0)) := (by rw [b5.block _ (by simp)]; exact heap_at_new rfl); have v52 : w5.cell? ⟨w4.heap.size, 2, none⟩ = some (.int .i64 z) := (by rw [cell_of_row w5 _ 2 _ _ (0, 0) hv5]; rfl); have z52 := frozen_of_row w5 w4.heap.size 2 _ _ hv5; have hl5 := (Array.getElem?_eq_some_iff.1 hv5).1; have qw : IntKind.i64.wrap (cN + u % 300) = cN + u % 300 := IntWalk.i64_in _ (by omega)))
  obtain ⟨zz, hzz⟩ : ∃ zz, zz = cN + u % 300 := ⟨_, rfl⟩
  rw [← hzz] at qw
  have hz1 : cN ≤ zz ∧ zz ≤ 400 := by omega
  have hb5 : Below w4.heap.size w4 w5 := (show Below w4.heap.size w4 _ from (by repeat (first | exact Below.refl _ _ | refine Below.drew ?_ | refine Below.alloc ?_ (by first | exact Nat.le_refl _ | (simp; done) | (simp; omega) | omega) _ | refine Below.more ?_ (by first | exact Nat.le_refl _ | (simp; done) | (simp; omega) | omega) _ _ | refine Below.setCell ?_ (by first | exact Nat.le_refl _ | (simp; done) | (simp; omega) | omega) _ | assumption))).trans (b5.mono (by first | (simp; done) | (simp; omega)))
  have hform : putB w5 w4.heap.size [.int .i64 x, .int .i64 y, .int .i64 z] 41 = w5 := putB_self hv5
  obtain ⟨w6, hw6⟩ : ∃ w6, w6 = putB w5 w4.heap.size [.int .i64 x, .int .i64 y, .int .i64 zz] 41 := ⟨_, rfl⟩
  have hset : w5.setCell ⟨w4.heap.size, 2, none⟩ (.int .i64 (cN + u % 300)) = w6 := by
    have e1 := setCell_putB (arr := [.int .i64 x, .int .i64 y, .int .i64 z]) (e := 41) 2 (.int .i64 zz) hl5
    rw [hform] at e1
    rw [hw6, ← hzz]; exact e1
  rw [hset]
  have hv6 : w6.heap[w4.heap.size]? = some (.cells ⟨[.int .i64 x, .int .i64 y, .int .i64 zz]⟩ 41 (0, 0)) := by rw [hw6]; exact heap_putB hl5
  have ho6 : ∀ k, k ≠ w4.heap.size → w6.heap[k]? = w5.heap[k]? := fun k hk => by rw [hw6]; exact heap_putB_other k hk
  have hc6 : w6.heap[w1.heap.size]? = w4.heap[w1.heap.size]? := by rw [ho6 _ hn14, hb5.block _ hl41]
  have hd6 : w6.heap[w3.heap.size]? = w4.heap[w3.heap.size]? := by rw [ho6 _ (by omega), hb5.block _ hl4]
  have B6 := Lib.hid (B4.out.trans ((hb5.mono hs4).trans (show Below W.heap.size w5 w6 by rw [hw6]; exact Below.putB hs4)))
  have HB6 := Lib.hid (HB.out.below B6.out)
  rw [HC4.out] at hc6
  rw [HD4.out] at hd6
  clear hzz qw qu u1 u2 hset hform hw6 ho6 hb5 hv5 b5 c35 v52 z52 hl5 HC4 HD4 c0 c1 c2 c3 c4 c5 c6 d0 d1 d2 d3 d4 d5 d6 B4 B4' HB4
  have l6c : w1.heap.size < w6.heap.size := (Array.getElem?_eq_some_iff.1 hc6).1
  have l6d : w3.heap.size < w6.heap.size := (Array.getElem?_eq_some_iff.1 hd6).1
  have l6v : w4.heap.size < w6.heap.size := (Array.getElem?_eq_some_iff.1 hv6).1
  have c0 : w6.cell? ⟨w1.heap.size, 0, none⟩ = some (.int .i64 cW) := by rw [cell_of_row w6 _ 0 _ _ (0, 0) hc6]; rfl
  have c1 : w6.cell? ⟨w1.heap.size, 1, none⟩ = some (.int .i64 cH) := by rw [cell_of_row w6 _ 1 _ _ (0, 0) hc6]; rfl
  have c2 : w6.cell? ⟨w1.heap.size, 2, none⟩ = some (.int .i64 cZ) := by rw [cell_of_row w6 _ 2 _ _ (0, 0) hc6]; rfl
  have c3 : w6.cell? ⟨w1.heap.size, 3, none⟩ = some (.int .i64 cN) := by rw [cell_of_row w6 _ 3 _ _ (0, 0) hc6]; rfl
  have c5 : w6.cell? ⟨w1.heap.size, 5, none⟩ = some (.int .i64 cL) := by rw [cell_of_row w6 _ 5 _ _ (0, 0) hc6]; rfl
  have c6 : w6.cell? ⟨w1.heap.size, 6, none⟩ = some (.int .i64 cF) := by rw [cell_of_row w6 _ 6 _ _ (0, 0) hc6]; rfl
  have c4 : w6.cell? ⟨w1.heap.size, 4, none⟩ = some (.bool cD) := by rw [cell_of_row w6 _ 4 _ _ (0, 0) hc6]; rfl
  have v0 : w6.cell? ⟨w4.heap.size, 0, none⟩ = some (.int .i64 x) := by rw [cell_of_row w6 _ 0 _ _ (0, 0) hv6]; rfl
  have v1 : w6.cell? ⟨w4.heap.size, 1, none⟩ = some (.int .i64 y) := by rw [cell_of_row w6 _ 1 _ _ (0, 0) hv6]; rfl
  have v2 : w6.cell? ⟨w4.heap.size, 2, none⟩ = some (.int .i64 zz) := by rw [cell_of_row w6 _ 2 _ _ (0, 0) hv6]; rfl
  have hok1 : projOk cW cH cZ cN cL cF x y zz 0 0 = true := by
    simp only [projOk, HCAM.out, vecOk, Bool.true_and, Bool.and_eq_true, inB_true, decide_eq_true_eq]
    omega
  obtain ⟨q1, hq1⟩ : ∃ q, q = projI cD cZ cL cF x zz 0 (cW * 16 / 2) := ⟨_, rfl⟩
  obtain ⟨q2, hq2⟩ : ∃ q, q = projI cD cZ cL cF y zz 0 (cH * 16 / 2) := ⟨_, rfl⟩
  have HP1 := Lib.hid (fun w => show Calls Tryd.prog 22 #[.agg #[.int .i64 cW, .int .i64 cH, .int .i64 cZ, .int .i64 cN, .bool cD, .int .i64 cL, .int .i64 cF], .agg #[.int .i64 x, .int .i64 y, .int .i64 zz], .int .i64 0, .int .i64 0] w fun e w' => e = .returned (.tuple #[.agg #[.int .i64 q1, .int .i64 q2, .int .i64 zz], .bool true]) ∧ Below w.heap.size w w' from (impl_Project cW cH cZ cN cD cL cF x y zz 0 0 w).mono fun e w' ⟨g1, g2⟩ => ⟨by rw [g1, hok1, hq1, hq2]; rfl, g2⟩)
  clear hok1 hq1 hq2
  go_wp2_with fail
  refine (HP1.out _).mono ?_
  rintro e w7 ⟨rfl, b7⟩
  have hc7 : w7.heap[w1.heap.size]? = _ := (b7.block _ l6c).trans hc6
  have hd7 : w7.heap[w3.heap.size]? = _ := (b7.block _ l6d).trans hd6
  have hv7 : w7.heap[w4.heap.size]? = _ := (b7.block _ l6v).trans hv6
  have B7 := B6.out.trans (b7.mono B6.out.size)
  have hs7 := B7.size
  have l7v : w4.heap.size < w7.heap.size := (Array.getElem?_eq_some_iff.1 hv7).1
  have l7c : w1.heap.size < w7.heap.size := (Array.getElem?_eq_some_iff.1 hc7).1
  have l7d : w3.heap.size < w7.heap.size := (Array.getElem?_eq_some_iff.1 hd7).1
  have B8 := Lib.hid (Below.alloc B7 hs7 (.cells #[.int .i64 q1, .int .i64 q2, .int .i64 zz] 41))
  clear b7 B6 hc6 hd6 hv6 l6c l6d l6v c0 c1 c2 c3 c4 c5 c6 v0 v1 v2 HP1 B7
  go_upto_region 8 with (fail)
  obtain ⟨w8, hw8⟩ : ∃ w8, w8 = w7.alloc (.cells #[.int .i64 q1, .int .i64 q2, .int .i64 zz] 41) := ⟨_, rfl⟩
  rw [← hw8]
  rw [← hw8] at B8
  have hold : ∀ k, k < w7.heap.size → w8.heap[k]? = w7.heap[k]? := fun k hk => by rw [hw8]; exact Below.block (Below.alloc (Below.refl _ _) (Nat.le_refl _) _) _ hk
  have hc8 : w8.heap[w1.heap.size]? = _ := (hold _ l7c).trans hc7
  have hd8 : w8.heap[w3.heap.size]? = _ := (hold _ l7d).trans hd7
  have hv8 : w8.heap[w4.heap.size]? = _ := (hold _ l7v).trans hv7
  have ha8 : w8.heap[w7.heap.size]? = some (.cells ⟨[.int .i64 q1, .int .i64 q2, .int .i64 zz]⟩ 41 (0, 0)) := by rw [hw8]; exact heap_at_new rfl
  clear hw8 hold hc7 hd7 hv7 hs7
  obtain ⟨A, hA⟩ : ∃ A, A = w7.heap.size := ⟨_, rfl⟩
  rw [← hA] at ha8 l7v l7c l7d ⊢
  clear hA
  have l8c : w1.heap.size < w8.heap.size := (Array.getElem?_eq_some_iff.1 hc8).1
  have l8d : w3.heap.size < w8.heap.size := (Array.getElem?_eq_some_iff.1 hd8).1
  have l8v : w4.heap.size < w8.heap.size := (Array.getElem?_eq_some_iff.1 hv8).1
  have l8a : A < w8.heap.size := (Array.getElem?_eq_some_iff.1 ha8).1
  have c0 : w8.cell? ⟨w1.heap.size, 0, none⟩ = some (.int .i64 cW) := by rw [cell_of_row w8 _ 0 _ _ (0, 0) hc8]; rfl
  have d0 : w8.cell? ⟨w3.heap.size, 0, none⟩ = some (.int .i64 cW) := by rw [cell_of_row w8 _ 0 _ _ (0, 0) hd8]; rfl
  have c1 : w8.cell? ⟨w1.heap.size, 1, none⟩ = some (.int .i64 cH) := by rw [cell_of_row w8 _ 1 _ _ (0, 0) hc8]; rfl
  have d1 : w8.cell? ⟨w3.heap.size, 1, none⟩ = some (.int .i64 cH) := by rw [cell_of_row w8 _ 1 _ _ (0, 0) hd8]; rfl
  have c2 : w8.cell? ⟨w1.heap.size, 2, none⟩ = some (.int .i64 cZ) := by rw [cell_of_row w8 _ 2 _ _ (0, 0) hc8]; rfl
  have d2 : w8.cell? ⟨w3.heap.size, 2, none⟩ = some (.int .i64 cZ) := by rw [cell_of_row w8 _ 2 _ _ (0, 0) hd8]; rfl
  have c3 : w8.cell? ⟨w1.heap.size, 3, none⟩ = some (.int .i64 cN) := by rw [cell_of_row w8 _ 3 _ _ (0, 0) hc8]; rfl
  have d3 : w8.cell? ⟨w3.heap.size, 3, none⟩ = some (.int .i64 cN) := by rw [cell_of_row w8 _ 3 _ _ (0, 0) hd8]; rfl
  have c5 : w8.cell? ⟨w1.heap.size, 5, none⟩ = some (.int .i64 cL) := by rw [cell_of_row w8 _ 5 _ _ (0, 0) hc8]; rfl
  have d5 : w8.cell? ⟨w3.heap.size, 5, none⟩ = some (.int .i64 cL) := by rw [cell_of_row w8 _ 5 _ _ (0, 0) hd8]; rfl
  have c6 : w8.cell? ⟨w1.heap.size, 6, none⟩ = some (.int .i64 cF) := by rw [cell_of_row w8 _ 6 _ _ (0, 0) hc8]; rfl
  have d6 : w8.cell? ⟨w3.heap.size, 6, none⟩ = some (.int .i64 cF) := by rw [cell_of_row w8 _ 6 _ _ (0, 0) hd8]; rfl
  have c4 : w8.cell? ⟨w1.heap.size, 4, none⟩ = some (.bool cD) := by rw [cell_of_row w8 _ 4 _ _ (0, 0) hc8]; rfl
  have d4 : w8.cell? ⟨w3.heap.size, 4, none⟩ = some (.bool cD) := by rw [cell_of_row w8 _ 4 _ _ (0, 0) hd8]; rfl
  have v0 : w8.cell? ⟨w4.heap.size, 0, none⟩ = some (.int .i64 x) := by rw [cell_of_row w8 _ 0 _ _ (0, 0) hv8]; rfl
  have a0 : w8.cell? ⟨A, 0, none⟩ = some (.int .i64 q1) := by rw [cell_of_row w8 _ 0 _ _ (0, 0) ha8]; rfl
  have v1 : w8.cell? ⟨w4.heap.size, 1, none⟩ = some (.int .i64 y) := by rw [cell_of_row w8 _ 1 _ _ (0, 0) hv8]; rfl
  have a1 : w8.cell? ⟨A, 1, none⟩ = some (.int .i64 q2) := by rw [cell_of_row w8 _ 1 _ _ (0, 0) ha8]; rfl
  have v2 : w8.cell? ⟨w4.heap.size, 2, none⟩ = some (.int .i64 zz) := by rw [cell_of_row w8 _ 2 _ _ (0, 0) hv8]; rfl
  have a2 : w8.cell? ⟨A, 2, none⟩ = some (.int .i64 zz) := by rw [cell_of_row w8 _ 2 _ _ (0, 0) ha8]; rfl
  have zv2 : w8.frozen? ⟨w4.heap.size, 2, none⟩ = false := frozen_of_row w8 w4.heap.size 2 _ _ hv8
  go_upto_region 11 with (fail)
  obtain ⟨w9, hw9⟩ : ∃ w9, w9 = w8.setCell ⟨w4.heap.size, 2, none⟩ (.int .i64 cF) := ⟨_, rfl⟩
  rw [← hw9]
  have hw9' : w9 = putB w8 w4.heap.size [.int .i64 x, .int .i64 y, .int .i64 cF] 41 := by
    have e1 := setCell_putB (arr := [.int .i64 x, .int .i64 y, .int .i64 zz]) (e := 41) 2 (.int .i64 cF) l8v
    rw [putB_self hv8] at e1
    rw [hw9]; exact e1
  have hold9 : ∀ k, k ≠ w4.heap.size → w9.heap[k]? = w8.heap[k]? := fun k hk => by rw [hw9']; exact heap_putB_other k hk
  have hc9 : w9.heap[w1.heap.size]? = _ := (hold9 _ hn14).trans hc8
  have ha9 : w9.heap[A]? = _ := (hold9 _ (by omega)).trans ha8
  have hv9 : w9.heap[w4.heap.size]? = some (.cells ⟨[.int .i64 x, .int .i64 y, .int .i64 cF]⟩ 41 (0, 0)) := by rw [hw9']; exact heap_putB l8v
  have B9 := Lib.hid (B8.out.trans (show Below W.heap.size w8 w9 by rw [hw9']; exact Below.putB hs4))
  have hnVA : ¬ w4.heap.size = A := by omega
  have hnCA : ¬ w1.heap.size = A := by omega
  clear hw9 hw9' hold9 hc8 hd8 hv8 ha8 c0 c1 c2 c3 c4 c5 c6 d0 d1 d2 d3 d4 d5 d6 v0 v1 v2 a0 a1 a2 zv2 l8c l8d l8v l8a B8 l7d
  have l9c : w1.heap.size < w9.heap.size := (Array.getElem?_eq_some_iff.1 hc9).1
  have l9v : w4.heap.size < w9.heap.size := (Array.getElem?_eq_some_iff.1 hv9).1
  have l9a : A < w9.heap.size := (Array.getElem?_eq_some_iff.1 ha9).1
  have c0 : w9.cell? ⟨w1.heap.size, 0, none⟩ = some (.int .i64 cW) := by rw [cell_of_row w9 _ 0 _ _ (0, 0) hc9]; rfl
  have c1 : w9.cell? ⟨w1.heap.size, 1, none⟩ = some (.int .i64 cH) := by rw [cell_of_row w9 _ 1 _ _ (0, 0) hc9]; rfl
  have c2 : w9.cell? ⟨w1.heap.size, 2, none⟩ = some (.int .i64 cZ) := by rw [cell_of_row w9 _ 2 _ _ (0, 0) hc9]; rfl
  have c3 : w9.cell? ⟨w1.heap.size, 3, none⟩ = some (.int .i64 cN) := by rw [cell_of_row w9 _ 3 _ _ (0, 0) hc9]; rfl
  have c5 : w9.cell? ⟨w1.heap.size, 5, none⟩ = some (.int .i64 cL) := by rw [cell_of_row w9 _ 5 _ _ (0, 0) hc9]; rfl
  have c6 : w9.cell? ⟨w1.heap.size, 6, none⟩ = some (.int .i64 cF) := by rw [cell_of_row w9 _ 6 _ _ (0, 0) hc9]; rfl
  have c4 : w9.cell? ⟨w1.heap.size, 4, none⟩ = some (.bool cD) := by rw [cell_of_row w9 _ 4 _ _ (0, 0) hc9]; rfl
  have v0 : w9.cell? ⟨w4.heap.size, 0, none⟩ = some (.int .i64 x) := by rw [cell_of_row w9 _ 0 _ _ (0, 0) hv9]; rfl
  have v1 : w9.cell? ⟨w4.heap.size, 1, none⟩ = some (.int .i64 y) := by rw [cell_of_row w9 _ 1 _ _ (0, 0) hv9]; rfl
  have v2 : w9.cell? ⟨w4.heap.size, 2, none⟩ = some (.int .i64 cF) := by rw [cell_of_row w9 _ 2 _ _ (0, 0) hv9]; rfl
  obtain ⟨k, hk⟩ : ∃ k, k = decide (cN ≤ cF) := ⟨_, rfl⟩
  have hok2 : ∀ lx ly, (-16 ≤ lx ∧ lx ≤ 16) → (-16 ≤ ly ∧ ly ≤ 16) → projOk cW cH cZ cN cL cF x y cF lx ly = k := fun lx ly h1 h2 => by
    have e1 : vecOk x y cF = true := by simp only [vecOk, Bool.and_eq_true, inB_true]; omega
    have e2 : inB lx (-16) 16 = true := inB_true.2 h1
    have e3 : inB ly (-16) 16 = true := inB_true.2 h2
    simp only [projOk, HCAM.out, e1, e2, e3, Bool.true_and]
    exact hk.symm
  obtain ⟨r1, hr1⟩ : ∃ q, q = ifI k (projI cD cZ cL cF x cF 0 (cW * 16 / 2)) := ⟨_, rfl⟩
  obtain ⟨r2, hr2⟩ : ∃ q, q = ifI k (projI cD cZ cL cF y cF 0 (cH * 16 / 2)) := ⟨_, rfl⟩
  obtain ⟨r3, hr3⟩ : ∃ q, q = ifI k cF := ⟨_, rfl⟩
  have HP2 := Lib.hid (fun lx ly (h1 : -16 ≤ lx ∧ lx ≤ 16) (h2 : -16 ≤ ly ∧ ly ≤ 16) w => show Calls Tryd.prog 22 #[.agg #[.int .i64 cW, .int .i64 cH, .int .i64 cZ, .int .i64 cN, .bool cD, .int .i64 cL, .int .i64 cF], .agg #[.int .i64 x, .int .i64 y, .int .i64 cF], .int .i64 lx, .int .i64 ly] w fun e w' => e = .returned (.tuple #[.agg #[.int .i64 r1, .int .i64 r2, .int .i64 r3], .bool k]) ∧ Below w.heap.size w w' from (impl_Project cW cH cZ cN cD cL cF x y cF lx ly w).mono fun e w' ⟨g1, g2⟩ => ⟨by rw [g1, hok2 lx ly h1 h2, hr1, hr2, hr3, projV, proj_focal cD cZ cL cF x lx, proj_focal cD cZ cL cF y ly], g2⟩)
  have HK := Lib.hid hk
  clear hok2 hr1 hr2 hr3 hk
  go_wp2_with fail
  refine (HP2.out 0 0 (by omega) (by omega) _).mono ?_
  rintro e w10 ⟨rfl, b10⟩
  have hc10 : w10.heap[w1.heap.size]? = _ := (b10.block _ l9c).trans hc9
  have hv10 : w10.heap[w4.heap.size]? = _ := (b10.block _ l9v).trans hv9
  have ha10 : w10.heap[A]? = _ := (b10.block _ l9a).trans ha9
  have B10 := Lib.hid (B9.out.trans (b10.mono B9.out.size))
  have l10a : A < w10.heap.size := (Array.getElem?_eq_some_iff.1 ha10).1
  have HF10 := Lib.hid (show putB w10 A [.int .i64 q1, .int .i64 q2, .int .i64 zz] 41 = w10 from putB_self ha10)
  clear b10 B9 hc9 hv9 ha9 l9c l9v l9a c0 c1 c2 c3 c4 c5 c6 v0 v1 v2
  rw [← HF10.out]
  go_upto_region 12 with (fail)
  obtain ⟨w11, hw11⟩ : ∃ w11, w11 = putB w10 A [.int .i64 r1, .int .i64 r2, .int .i64 r3] 41 := ⟨_, rfl⟩
  rw [← hw11]
  have hold11 : ∀ k, k ≠ A → w11.heap[k]? = w10.heap[k]? := fun k hk => by rw [hw11]; exact heap_putB_other k hk
  have hc11 : w11.heap[w1.heap.size]? = _ := (hold11 _ hnCA).trans hc10
  have hv11 : w11.heap[w4.heap.size]? = _ := (hold11 _ hnVA).trans hv10
  have ha11 : w11.heap[A]? = some (.cells ⟨[.int .i64 r1, .int .i64 r2, .int .i64 r3]⟩ 41 (0, 0)) := by rw [hw11]; exact heap_putB l10a
  have B11 := Lib.hid (B10.out.trans (show Below W.heap.size w10 w11 by rw [hw11]; exact Below.putB (by omega)))
  have HB11 := Lib.hid (HB.out.below B11.out)
  clear hw11 hold11 hc10 hv10 ha10 l10a HF10 B10
  have lc : w1.heap.size < w11.heap.size := (Array.getElem?_eq_some_iff.1 hc11).1
  have lv : w4.heap.size < w11.heap.size := (Array.getElem?_eq_some_iff.1 hv11).1
  have la : A < w11.heap.size := (Array.getElem?_eq_some_iff.1 ha11).1
  have HA11 := Lib.hid ha11
  have SW : SCam w1.heap.size w4.heap.size [.int .i64 cW, .int .i64 cH, .int .i64 cZ, .int .i64 cN, .bool cD, .int .i64 cL, .int .i64 cF] [.int .i64 x, .int .i64 y, .int .i64 cF] w11 := ⟨hc11, hv11⟩
  have HSW := Lib.hid SW
  have c0 : w11.cell? ⟨w1.heap.size, 0, none⟩ = some (.int .i64 cW) := by rw [cell_of_row w11 _ 0 _ _ (0, 0) hc11]; rfl
  have c1 : w11.cell? ⟨w1.heap.size, 1, none⟩ = some (.int .i64 cH) := by rw [cell_of_row w11 _ 1 _ _ (0, 0) hc11]; rfl
  have c2 : w11.cell? ⟨w1.heap.size, 2, none⟩ = some (.int .i64 cZ) := by rw [cell_of_row w11 _ 2 _ _ (0, 0) hc11]; rfl
  have c3 : w11.cell? ⟨w1.heap.size, 3, none⟩ = some (.int .i64 cN) := by rw [cell_of_row w11 _ 3 _ _ (0, 0) hc11]; rfl
  have c4 : w11.cell? ⟨w1.heap.size, 4, none⟩ = some (.bool cD) := by rw [cell_of_row w11 _ 4 _ _ (0, 0) hc11]; rfl
  have c5 : w11.cell? ⟨w1.heap.size, 5, none⟩ = some (.int .i64 cL) := by rw [cell_of_row w11 _ 5 _ _ (0, 0) hc11]; rfl
  have c6 : w11.cell? ⟨w1.heap.size, 6, none⟩ = some (.int .i64 cF) := by rw [cell_of_row w11 _ 6 _ _ (0, 0) hc11]; rfl
  have v0 : w11.cell? ⟨w4.heap.size, 0, none⟩ = some (.int .i64 x) := by rw [cell_of_row w11 _ 0 _ _ (0, 0) hv11]; rfl
  have v1 : w11.cell? ⟨w4.heap.size, 1, none⟩ = some (.int .i64 y) := by rw [cell_of_row w11 _ 1 _ _ (0, 0) hv11]; rfl
  have v2 : w11.cell? ⟨w4.heap.size, 2, none⟩ = some (.int .i64 cF) := by rw [cell_of_row w11 _ 2 _ _ (0, 0) hv11]; rfl
  clear hc11 hv11 ha11
  go_cut [9, 10] (fun s9 s10 wy => ∃ T : Nat, s9 = .pointer (some ⟨T, 0, none⟩) ∧ s10 = .bool k ∧ wy.heap[T]? = some (.cells ⟨[.int .i64 r1, .int .i64 r2, .int .i64 r3]⟩ 41 (0, 0)) ∧ Below w11.heap.size w11 wy)
  case first =>
    go_region_held3 (fun w' => w'.cell? ⟨w1.heap.size, 0, none⟩ = some (.int .i64 cW) ∧ w'.cell? ⟨w1.heap.size, 1, none⟩ = some (.int .i64 cH) ∧ w'.cell? ⟨w1.heap.size, 2, none⟩ = some (.int .i64 cZ) ∧ w'.cell? ⟨w1.heap.size, 3, none⟩ = some (.int .i64 cN) ∧ w'.cell? ⟨w1.heap.size, 4, none⟩ = some (.bool cD) ∧ w'.cell? ⟨w1.heap.size, 5, none⟩ = some (.int .i64 cL) ∧ w'.cell? ⟨w1.heap.size, 6, none⟩ = some (.int .i64 cF) ∧ w'.cell? ⟨w4.heap.size, 0, none⟩ = some (.int .i64 x) ∧ w'.cell? ⟨w4.heap.size, 1, none⟩ = some (.int .i64 y) ∧ w'.cell? ⟨w4.heap.size, 2, none⟩ = some (.int .i64 cF)) (first | assumption | exact (HSW.out.below (by repeat (first | exact Below.refl _ _ | refine Below.drew ?_ | refine Below.alloc ?_ (by first | exact Nat.le_refl _ | (simp; done) | (simp; omega) | omega) _ | refine Below.more ?_ (by first | exact Nat.le_refl _ | (simp; done) | (simp; omega) | omega) _ _ | refine Below.setCell ?_ (by first | exact Nat.le_refl _ | (simp; done) | (simp; omega) | omega) _ | assumption))).cells | exact ((HSW.out.below (by repeat (first | exact Below.refl _ _ | refine Below.drew ?_ | refine Below.alloc ?_ (by first | exact Nat.le_refl _ | (simp; done) | (simp; omega) | omega) _ | refine Below.more ?_ (by first | exact Nat.le_refl _ | (simp; done) | (simp; omega) | omega) _ _ | refine Below.setCell ?_ (by first | exact Nat.le_refl _ | (simp; done) | (simp; omega) | omega) _ | assumption))).set3 (by omega) (by omega)).cells) (first | (go_at_call 21; refine (MakeNum_k a n cap C _ _ (HB11.out.below (by repeat (first | exact Below.refl _ _ | refine Below.drew ?_ | refine Below.alloc ?_ (by first | exact Nat.le_refl _ | (simp; done) | (simp; omega) | omega) _ | refine Below.more ?_ (by first | exact Nat.le_refl _ | (simp; done) | (simp; omega) | omega) _ _ | refine Below.setCell ?_ (by first | exact Nat.le_refl _ | (simp; done) | (simp; omega) | omega) _ | assumption))) hbig (by omega) (by omega)).mono ?_; rintro e w12 ⟨u, u1, u2, rfl, b12⟩; have qu := Int.tmod_eq_emod_of_nonneg (b := 33) u1; have qw : IntKind.i64.wrap (u % 33 - 16) = u % 33 - 16 := IntWalk.i64_in _ (by omega); have bb : Below w11.heap.size w11 w12 := (show Below w11.heap.size w11 _ from (by repeat (first | exact Below.refl _ _ | refine Below.drew ?_ | refine Below.alloc ?_ (by first | exact Nat.le_refl _ | (simp; done) | (simp; omega) | omega) _ | refine Below.more ?_ (by first | exact Nat.le_refl _ | (simp; done) | (simp; omega) | omega) _ _ | refine Below.setCell ?_ (by first | exact Nat.le_refl _ | (simp; done) | (simp; omega) | omega) _ | assumption))).trans (b12.mono (by first | exact Nat.le_refl _ | (simp; done) | (simp; omega) | omega)); have hsz := bb.size; (first | (have tn := (b12.block _ (by first | (simp; done) | (simp; omega))).trans (heap_alloc_new _ _); have t0 : w12.cell? ⟨_, 0, none⟩ = some (.int .i64 0) := (cell_of_row w12 _ 0 _ _ (0, 0) tn).trans rfl; have t1 : w12.cell? ⟨_, 1, none⟩ = some (.int .i64 0) := (cell_of_row w12 _ 1 _ _ (0, 0) tn).trans rfl; have t2 : w12.cell? ⟨_, 2, none⟩ = some (.int .i64 0) := (cell_of_row w12 _ 2 _ _ (0, 0) tn).trans rfl; have f0 := frozen_of_row w12 _ 0 _ _ tn; have f1 := frozen_of_row w12 _ 1 _ _ tn; have f2 := frozen_of_row w12 _ 2 _ _ tn; have tl := (Array.getElem?_eq_some_iff.1 tn).1) | (have tm := (b12.block _ tl).trans tn; clear tn t0 t1 t2 f0 f1 f2; have tn := tm; clear tm; have t0 : w12.cell? ⟨_, 0, none⟩ = some (.int .i64 0) := (cell_of_row w12 _ 0 _ _ (0, 0) tn).trans rfl; have t1 : w12.cell? ⟨_, 1, none⟩ = some (.int .i64 0) := (cell_of_row w12 _ 1 _ _ (0, 0) tn).trans rfl; have t2 : w12.cell? ⟨_, 2, none⟩ = some (.int .i64 0) := (cell_of_row w12 _ 2 _ _ (0, 0) tn).trans rfl; have f0 := frozen_of_row w12 _ 0 _ _ tn; have f1 := frozen_of_row w12 _ 1 _ _ tn; have f2 := frozen_of_row w12 _ 2 _ _ tn; have tl := (Array.getElem?_eq_some_iff.1 tn).1) | skip); clear b12) | (go_at_call 22; refine (HP2.out _ _ (by omega) (by omega) _).mono ?_; rintro e w12 ⟨rfl, b12⟩; have bb : Below w11.heap.size w11 w12 := (show Below w11.heap.size w11 _ from (by repeat (first | exact Below.refl _ _ | refine Below.drew ?_ | refine Below.alloc ?_ (by first | exact Nat.le_refl _ | (simp; done) | (simp; omega) | omega) _ | refine Below.more ?_ (by first | exact Nat.le_refl _ | (simp; done) | (simp; omega) | omega) _ _ | refine Below.setCell ?_ (by first | exact Nat.le_refl _ | (simp; done) | (simp; omega) | omega) _ | assumption))).trans (b12.mono (by first | exact Nat.le_refl _ | (simp; done) | (simp; omega) | omega)); have hsz := bb.size; (first | (have tn := (b12.block _ (by first | (simp; done) | (simp; omega))).trans (heap_alloc_new _ _); have t0 : w12.cell? ⟨_, 0, none⟩ = some (.int .i64 0) := (cell_of_row w12 _ 0 _ _ (0, 0) tn).trans rfl; have t1 : w12.cell? ⟨_, 1, none⟩ = some (.int .i64 0) := (cell_of_row w12 _ 1 _ _ (0, 0) tn).trans rfl; have t2 : w12.cell? ⟨_, 2, none⟩ = some (.int .i64 0) := (cell_of_row w12 _ 2 _ _ (0, 0) tn).trans rfl; have f0 := frozen_of_row w12 _ 0 _ _ tn; have f1 := frozen_of_row w12 _ 1 _ _ tn; have f2 := frozen_of_row w12 _ 2 _ _ tn; have tl := (Array.getElem?_eq_some_iff.1 tn).1) | (have tm := (b12.block _ tl).trans tn; clear tn t0 t1 t2 f0 f1 f2; have tn := tm; clear tm; have t0 : w12.cell? ⟨_, 0, none⟩ = some (.int .i64 0) := (cell_of_row w12 _ 0 _ _ (0, 0) tn).trans rfl; have t1 : w12.cell? ⟨_, 1, none⟩ = some (.int .i64 0) := (cell_of_row w12 _ 1 _ _ (0, 0) tn).trans rfl; have t2 : w12.cell? ⟨_, 2, none⟩ = some (.int .i64 0) := (cell_of_row w12 _ 2 _ _ (0, 0) tn).trans rfl; have f0 := frozen_of_row w12 _ 0 _ _ tn; have f1 := frozen_of_row w12 _ 1 _ _ tn; have f2 := frozen_of_row w12 _ 2 _ _ tn; have tl := (Array.getElem?_eq_some_iff.1 tn).1) | skip); clear b12))
    all_goals
      go_wp2_with fail
      go_meet
      first
        | exact ⟨_, rfl, rfl, heap_at_new rfl, Below.alloc bb hsz _⟩
        | exact ⟨_, rfl, rfl, by rw [set3_block tn]; exact heap_putB tl, by rw [set3_block tn]; exact bb.trans (Below.putB (by omega))⟩
  case rest =>
    rename World => wx
    obtain ⟨T, rfl, rfl, hT, hbx⟩ := hcut
    have HBX := Lib.hid (B11.out.trans (hbx.mono B11.out.size))
    have hax : wx.heap[A]? = _ := (hbx.block _ la).trans HA11.out
    have e3 := cell_below hbx c3
    have e6 := cell_below hbx c6
    have lcx : w1.heap.size < wx.heap.size := World.block_lt_of_cell? _ _ e3
    have lax : A < wx.heap.size := (Array.getElem?_eq_some_iff.1 hax).1
    have ltx : T < wx.heap.size := (Array.getElem?_eq_some_iff.1 hT).1
    have a0 : wx.cell? ⟨A, 0, none⟩ = some (.int .i64 r1) := by rw [cell_of_row wx _ 0 _ _ (0, 0) hax]; rfl
    have b0 : wx.cell? ⟨T, 0, none⟩ = some (.int .i64 r1) := by rw [cell_of_row wx _ 0 _ _ (0, 0) hT]; rfl
    have a1 : wx.cell? ⟨A, 1, none⟩ = some (.int .i64 r2) := by rw [cell_of_row wx _ 1 _ _ (0, 0) hax]; rfl
    have b1 : wx.cell? ⟨T, 1, none⟩ = some (.int .i64 r2) := by rw [cell_of_row wx _ 1 _ _ (0, 0) hT]; rfl
    have a2 : wx.cell? ⟨A, 2, none⟩ = some (.int .i64 r3) := by rw [cell_of_row wx _ 2 _ _ (0, 0) hax]; rfl
    have b2 : wx.cell? ⟨T, 2, none⟩ = some (.int .i64 r3) := by rw [cell_of_row wx _ 2 _ _ (0, 0) hT]; rfl
    have hv := vecEq_self r1 r2 r3
    clear hT hbx hax c0 c1 c2 c3 c4 c5 c6 v0 v1 v2 SW
    have hk := HK.out
    cases k
    · have h1 : ¬ cN ≤ cF := by simpa using hk.symm
      clear hk
      go_wp2
      go_ret
      exact ⟨by first | rfl | (rw [hv]; done) | simp [hv], HBX.out⟩
    · have h1 : cN ≤ cF := by simpa using hk.symm
      clear hk
      go_wp2
      go_ret
      exact ⟨by first | rfl | (rw [hv]; done) | simp [hv], HBX.out⟩
end Go.Proofs.YtdkjiafdfenbkaaDoor
