/- The walk of the law FnCracks. -/
import Derived.Test.YtkdkdejgajcneaaCracksM
import Derived.Test.YtkdkdejgajcneaaDiceG
import Derived.Test.YtkdkdejgajcneaaMake
import Derived.Test.YtkdkdejgajcneaaOpen
import Derived.Test.YtkdkdejgajcneaaAppend
namespace Go.Proofs.Ytkdkdejgajcneaa
open Go Go.RowKit Go.ChangeShapes
set_option linter.unusedVariables false
set_option maxRecDepth 100000 in
set_option maxHeartbeats 8000000 in
theorem law_Cracks {H : Type} {enc : TypeId × Value → H} {W : World} {base : Nat} {v0 : Value} {d0 : DataW H} {p0 : List MemPlace}
    (k0 : Value.okWide Try.prog W .any base 22 v0) (h0 : DataW.Trod enc Try.prog W 0 (fun _ => true) true 22 v0 d0 p0) :
    Calls Try.prog 9 #[v0] W fun e W' => e = .returned (.bool true) ∧ Below W.heap.size W W' := by
  obtain ⟨a, cap, C, n, rfl, HB, hn⟩ := open_bytes k0 h0
  clear k0 h0
  by_cases hbig : n ≤ 1048576
  · have hb1 : ¬ (n : Int) > 1048576 := by omega
    go_enter Try.func9, Try.ntmps9
    go_wp2_with fail
    refine (MakeCamera_c a n cap C _ HB.out hbig).mono ?_
    rintro e w1 ⟨cW, cH, cZ, cN, cD, cL, cF, hcb, rfl, B1⟩
    have B1' := Lib.hid (Below.alloc B1 B1.size (.cells #[.int .i64 cW, .int .i64 cH, .int .i64 cZ, .int .i64 cN, .bool cD, .int .i64 cL, .int .i64 cF] 24))
    have hs1 := B1.size
    clear B1 hcb
    go_wp2_with fail
    refine (MakePatch_c a n cap C 0 _ (HB.out.below B1'.out) hbig (by omega) (by omega)).mono ?_
    rintro e w2 ⟨t0, t1, t2, t3, t4, t5, t6, t7, t8, t9, t10, t11, hta, rfl, b2⟩
    have hc2 : w2.heap[w1.heap.size]? = some (.cells #[.int .i64 cW, .int .i64 cH, .int .i64 cZ, .int .i64 cN, .bool cD, .int .i64 cL, .int .i64 cF] 24 (0, 0)) := by rw [b2.block _ (by simp), heap_alloc_new]
    have B2 := B1'.out.trans (b2.mono (by simp; omega))
    have B2' := Lib.hid (Below.alloc B2 B2.size (.cells #[.int .i64 t0, .int .i64 t1, .int .i64 t2, .int .i64 t3, .int .i64 t4, .int .i64 t5, .int .i64 t6, .int .i64 t7, .int .i64 t8, .int .i64 t9, .int .i64 t10, .int .i64 t11] 30))
    have hs2 : w1.heap.size < w2.heap.size := (Array.getElem?_eq_some_iff.1 hc2).1
    have HC2 := Lib.hid hc2
    have HTA := Lib.hid hta
    clear b2 B2 hta hc2
    go_wp2_with fail
    refine (MakePatch_c a n cap C 1 _ (HB.out.below B2'.out) hbig (by omega) (by omega)).mono ?_
    rintro e w3 ⟨s0, s1, s2, s3, s4, s5, s6, s7, s8, s9, s10, s11, hsa, rfl, b3⟩
    have hp3 : w3.heap[w2.heap.size]? = some (.cells #[.int .i64 t0, .int .i64 t1, .int .i64 t2, .int .i64 t3, .int .i64 t4, .int .i64 t5, .int .i64 t6, .int .i64 t7, .int .i64 t8, .int .i64 t9, .int .i64 t10, .int .i64 t11] 30 (0, 0)) := by rw [b3.block _ (by simp), heap_alloc_new]
    have hc3 : w3.heap[w1.heap.size]? = some (.cells #[.int .i64 cW, .int .i64 cH, .int .i64 cZ, .int .i64 cN, .bool cD, .int .i64 cL, .int .i64 cF] 24 (0, 0)) := by rw [b3.block _ (by simp; omega), Below.block (Below.alloc (Below.refl _ _) (Nat.le_refl _) _) _ hs2]; exact HC2.out
    have B3 := Lib.hid (B2'.out.trans (b3.mono (by simp; omega)))
    have hs3 : w2.heap.size < w3.heap.size := (Array.getElem?_eq_some_iff.1 hp3).1
    have hs13 : w1.heap.size < w3.heap.size := by omega
    have d0 : w3.cell? ⟨w2.heap.size, 0, none⟩ = some (.int .i64 t0) := by rw [cell_of_row w3 _ 0 _ _ (0, 0) hp3]; rfl
    have d1 : w3.cell? ⟨w2.heap.size, 1, none⟩ = some (.int .i64 t1) := by rw [cell_of_row w3 _ 1 _ _ (0, 0) hp3]; rfl
    have d2 : w3.cell? ⟨w2.heap.size, 2, none⟩ = some (.int .i64 t2) := by rw [cell_of_row w3 _ 2 _ _ (0, 0) hp3]; rfl
    have d3 : w3.cell? ⟨w2.heap.size, 3, none⟩ = some (.int .i64 t3) := by rw [cell_of_row w3 _ 3 _ _ (0, 0) hp3]; rfl
    have d4 : w3.cell? ⟨w2.heap.size, 4, none⟩ = some (.int .i64 t4) := by rw [cell_of_row w3 _ 4 _ _ (0, 0) hp3]; rfl
    have d5 : w3.cell? ⟨w2.heap.size, 5, none⟩ = some (.int .i64 t5) := by rw [cell_of_row w3 _ 5 _ _ (0, 0) hp3]; rfl
    have d6 : w3.cell? ⟨w2.heap.size, 6, none⟩ = some (.int .i64 t6) := by rw [cell_of_row w3 _ 6 _ _ (0, 0) hp3]; rfl
    have d7 : w3.cell? ⟨w2.heap.size, 7, none⟩ = some (.int .i64 t7) := by rw [cell_of_row w3 _ 7 _ _ (0, 0) hp3]; rfl
    have d8 : w3.cell? ⟨w2.heap.size, 8, none⟩ = some (.int .i64 t8) := by rw [cell_of_row w3 _ 8 _ _ (0, 0) hp3]; rfl
    have d9 : w3.cell? ⟨w2.heap.size, 9, none⟩ = some (.int .i64 t9) := by rw [cell_of_row w3 _ 9 _ _ (0, 0) hp3]; rfl
    have d10 : w3.cell? ⟨w2.heap.size, 10, none⟩ = some (.int .i64 t10) := by rw [cell_of_row w3 _ 10 _ _ (0, 0) hp3]; rfl
    have d11 : w3.cell? ⟨w2.heap.size, 11, none⟩ = some (.int .i64 t11) := by rw [cell_of_row w3 _ 11 _ _ (0, 0) hp3]; rfl
    have HC3 := Lib.hid hc3
    have HP3 := Lib.hid hp3
    have HSA := Lib.hid hsa
    have hsw : W.heap.size ≤ w3.heap.size := B3.out.size
    clear b3 hsa hp3 hc3 B1' B2' HC2
    go_wp2_with fail
    refine (MakeNum_k a n cap C 1 _ (HB.out.below (Below.trans B3.out (Below.mono (show Below w3.heap.size w3 _ from (by repeat (first | exact Below.refl _ _ | refine Below.drew ?_ | refine Below.alloc ?_ (by first | exact Nat.le_refl _ | (simp; done) | (simp; omega) | omega) _ | refine Below.more ?_ (by first | exact Nat.le_refl _ | (simp; done) | (simp; omega) | omega) _ _ | refine Below.setCell ?_ (by first | exact Nat.le_refl _ | (simp; done) | (simp; omega) | omega) _ | assumption))) hsw))) hbig (by omega) (by omega)).mono ?_
    rintro e w4 ⟨x, x1, x2, rfl, b4⟩
    have b34 : Below w3.heap.size w3 w4 := Below.trans (show Below w3.heap.size w3 _ from (by repeat (first | exact Below.refl _ _ | refine Below.drew ?_ | refine Below.alloc ?_ (by first | exact Nat.le_refl _ | (simp; done) | (simp; omega) | omega) _ | refine Below.more ?_ (by first | exact Nat.le_refl _ | (simp; done) | (simp; omega) | omega) _ _ | refine Below.setCell ?_ (by first | exact Nat.le_refl _ | (simp; done) | (simp; omega) | omega) _ | assumption))) (b4.mono (by simp; omega))
    have hpb : w4.heap[w3.heap.size]? = some (.cells #[.int .i64 t3, .int .i64 t4, .int .i64 t5, .int .i64 s3, .int .i64 s4, .int .i64 s5, .int .i64 t9, .int .i64 t10, .int .i64 t11, .int .i64 s9, .int .i64 s10, .int .i64 s11] 30 (0, 0)) := by rw [b4.block _ (by simp; omega), Below.block (Below.alloc (Below.refl _ _) (Nat.le_refl _) _) _ (by simp), heap_alloc_new]
    have har : w4.heap[w3.heap.size + 1]? = some (.cells #[.int .i64 1, .int .i64 2, .int .i64 4, .int .i64 8] 3 (0, 0)) := by rw [b4.block _ (by simp)]; exact heap_at_new (by simp)
    have hpa := (b34.block _ hs3).trans HP3.out
    have hca := (b34.block _ hs13).trans HC3.out
    have B4 := Lib.hid (B3.out.trans (b34.mono hsw))
    have ls : w3.heap.size + 1 < w4.heap.size := (Array.getElem?_eq_some_iff.1 har).1
    replace d0 : w4.cell? ⟨w2.heap.size, 0, none⟩ = some (.int .i64 t0) := by rw [cell_of_row w4 _ 0 _ _ (0, 0) hpa]; rfl
    replace d1 : w4.cell? ⟨w2.heap.size, 1, none⟩ = some (.int .i64 t1) := by rw [cell_of_row w4 _ 1 _ _ (0, 0) hpa]; rfl
    replace d2 : w4.cell? ⟨w2.heap.size, 2, none⟩ = some (.int .i64 t2) := by rw [cell_of_row w4 _ 2 _ _ (0, 0) hpa]; rfl
    replace d3 : w4.cell? ⟨w2.heap.size, 3, none⟩ = some (.int .i64 t3) := by rw [cell_of_row w4 _ 3 _ _ (0, 0) hpa]; rfl
    replace d4 : w4.cell? ⟨w2.heap.size, 4, none⟩ = some (.int .i64 t4) := by rw [cell_of_row w4 _ 4 _ _ (0, 0) hpa]; rfl
    replace d5 : w4.cell? ⟨w2.heap.size, 5, none⟩ = some (.int .i64 t5) := by rw [cell_of_row w4 _ 5 _ _ (0, 0) hpa]; rfl
    replace d6 : w4.cell? ⟨w2.heap.size, 6, none⟩ = some (.int .i64 t6) := by rw [cell_of_row w4 _ 6 _ _ (0, 0) hpa]; rfl
    replace d7 : w4.cell? ⟨w2.heap.size, 7, none⟩ = some (.int .i64 t7) := by rw [cell_of_row w4 _ 7 _ _ (0, 0) hpa]; rfl
    replace d8 : w4.cell? ⟨w2.heap.size, 8, none⟩ = some (.int .i64 t8) := by rw [cell_of_row w4 _ 8 _ _ (0, 0) hpa]; rfl
    replace d9 : w4.cell? ⟨w2.heap.size, 9, none⟩ = some (.int .i64 t9) := by rw [cell_of_row w4 _ 9 _ _ (0, 0) hpa]; rfl
    replace d10 : w4.cell? ⟨w2.heap.size, 10, none⟩ = some (.int .i64 t10) := by rw [cell_of_row w4 _ 10 _ _ (0, 0) hpa]; rfl
    replace d11 : w4.cell? ⟨w2.heap.size, 11, none⟩ = some (.int .i64 t11) := by rw [cell_of_row w4 _ 11 _ _ (0, 0) hpa]; rfl
    have e0 : w4.cell? ⟨w3.heap.size, 0, none⟩ = some (.int .i64 t3) := by rw [cell_of_row w4 _ 0 _ _ (0, 0) hpb]; rfl
    have e1 : w4.cell? ⟨w3.heap.size, 1, none⟩ = some (.int .i64 t4) := by rw [cell_of_row w4 _ 1 _ _ (0, 0) hpb]; rfl
    have e2 : w4.cell? ⟨w3.heap.size, 2, none⟩ = some (.int .i64 t5) := by rw [cell_of_row w4 _ 2 _ _ (0, 0) hpb]; rfl
    have e3 : w4.cell? ⟨w3.heap.size, 3, none⟩ = some (.int .i64 s3) := by rw [cell_of_row w4 _ 3 _ _ (0, 0) hpb]; rfl
    have e4 : w4.cell? ⟨w3.heap.size, 4, none⟩ = some (.int .i64 s4) := by rw [cell_of_row w4 _ 4 _ _ (0, 0) hpb]; rfl
    have e5 : w4.cell? ⟨w3.heap.size, 5, none⟩ = some (.int .i64 s5) := by rw [cell_of_row w4 _ 5 _ _ (0, 0) hpb]; rfl
    have e6 : w4.cell? ⟨w3.heap.size, 6, none⟩ = some (.int .i64 t9) := by rw [cell_of_row w4 _ 6 _ _ (0, 0) hpb]; rfl
    have e7 : w4.cell? ⟨w3.heap.size, 7, none⟩ = some (.int .i64 t10) := by rw [cell_of_row w4 _ 7 _ _ (0, 0) hpb]; rfl
    have e8 : w4.cell? ⟨w3.heap.size, 8, none⟩ = some (.int .i64 t11) := by rw [cell_of_row w4 _ 8 _ _ (0, 0) hpb]; rfl
    have e9 : w4.cell? ⟨w3.heap.size, 9, none⟩ = some (.int .i64 s9) := by rw [cell_of_row w4 _ 9 _ _ (0, 0) hpb]; rfl
    have e10 : w4.cell? ⟨w3.heap.size, 10, none⟩ = some (.int .i64 s10) := by rw [cell_of_row w4 _ 10 _ _ (0, 0) hpb]; rfl
    have e11 : w4.cell? ⟨w3.heap.size, 11, none⟩ = some (.int .i64 s11) := by rw [cell_of_row w4 _ 11 _ _ (0, 0) hpb]; rfl
    have c0 : w4.cell? ⟨w1.heap.size, 0, none⟩ = some (.int .i64 cW) := by rw [cell_of_row w4 _ 0 _ _ (0, 0) hca]; rfl
    have c1 : w4.cell? ⟨w1.heap.size, 1, none⟩ = some (.int .i64 cH) := by rw [cell_of_row w4 _ 1 _ _ (0, 0) hca]; rfl
    have c2 : w4.cell? ⟨w1.heap.size, 2, none⟩ = some (.int .i64 cZ) := by rw [cell_of_row w4 _ 2 _ _ (0, 0) hca]; rfl
    have c3 : w4.cell? ⟨w1.heap.size, 3, none⟩ = some (.int .i64 cN) := by rw [cell_of_row w4 _ 3 _ _ (0, 0) hca]; rfl
    have c4 : w4.cell? ⟨w1.heap.size, 4, none⟩ = some (.bool cD) := by rw [cell_of_row w4 _ 4 _ _ (0, 0) hca]; rfl
    have c5 : w4.cell? ⟨w1.heap.size, 5, none⟩ = some (.int .i64 cL) := by rw [cell_of_row w4 _ 5 _ _ (0, 0) hca]; rfl
    have c6 : w4.cell? ⟨w1.heap.size, 6, none⟩ = some (.int .i64 cF) := by rw [cell_of_row w4 _ 6 _ _ (0, 0) hca]; rfl
    obtain ⟨y, hx2, hy4⟩ : ∃ y : Nat, x % 4 = (y : Int) ∧ y < 4 := ⟨(x % 4).toNat, by omega, by omega⟩
    have hx1 : x.tmod 4 = (y : Int) := by rw [Int.tmod_eq_emod_of_nonneg x1]; exact hx2
    have hyi : (y : Int) < 4 := by omega
    obtain ⟨N, hN, gN⟩ : ∃ N : Int, (N = 1 ∨ N = 2 ∨ N = 4 ∨ N = 8) ∧ w4.cell? ⟨w3.heap.size + 1, y, none⟩ = some (.int .i64 N) := by
      have hy : y = 0 ∨ y = 1 ∨ y = 2 ∨ y = 3 := by omega
      rcases hy with rfl | rfl | rfl | rfl
      · exact ⟨1, by decide, by rw [cell_of_row w4 _ _ _ _ (0, 0) har]; rfl⟩
      · exact ⟨2, by decide, by rw [cell_of_row w4 _ _ _ _ (0, 0) har]; rfl⟩
      · exact ⟨4, by decide, by rw [cell_of_row w4 _ _ _ _ (0, 0) har]; rfl⟩
      · exact ⟨8, by decide, by rw [cell_of_row w4 _ _ _ _ (0, 0) har]; rfl⟩
    have HBS := Lib.hid (show True from trivial)
    clear b4 b34 hpb har hpa hca HP3 HC3 B3 HB
    have hN1 : 1 ≤ N := by omega
    have hN8 : N ≤ 8 := by omega
    go_wp2
    go_loopw [7] (fun i wr => ∃ j : Nat, (j : Int) ≤ N + 1 ∧ i = .int .i64 j ∧ Below w4.heap.size w4 wr) (fun i _ => (N + 1).toNat - (intOf i).toNat)
    case atStart => exact ⟨0, by omega, rfl, Below.refl _ _⟩
    case round =>
      obtain ⟨j, hj, rfl, hbel⟩ := hrel
      have HBEL := Lib.hid hbel
      have hsz := hbel.size
      have l1 : w1.heap.size < wr.heap.size := by omega
      have l2 : w2.heap.size < wr.heap.size := by omega
      have l3 : w3.heap.size < wr.heap.size := by omega
      replace d0 := cell_below hbel d0
      replace e0 := cell_below hbel e0
      replace d1 := cell_below hbel d1
      replace e1 := cell_below hbel e1
      replace d2 := cell_below hbel d2
      replace e2 := cell_below hbel e2
      replace d3 := cell_below hbel d3
      replace e3 := cell_below hbel e3
      replace d4 := cell_below hbel d4
      replace e4 := cell_below hbel e4
      replace d5 := cell_below hbel d5
      replace e5 := cell_below hbel e5
      replace d6 := cell_below hbel d6
      replace e6 := cell_below hbel e6
      replace d7 := cell_below hbel d7
      replace e7 := cell_below hbel e7
      replace d8 := cell_below hbel d8
      replace e8 := cell_below hbel e8
      replace d9 := cell_below hbel d9
      replace e9 := cell_below hbel e9
      replace d10 := cell_below hbel d10
      replace e10 := cell_below hbel e10
      replace d11 := cell_below hbel d11
      replace e11 := cell_below hbel e11
      replace c0 := cell_below hbel c0
      replace c1 := cell_below hbel c1
      replace c2 := cell_below hbel c2
      replace c3 := cell_below hbel c3
      replace c4 := cell_below hbel c4
      replace c5 := cell_below hbel c5
      replace c6 := cell_below hbel c6
      clear hbel gN
      by_cases hlt : (j : Int) ≤ N
      · have hev : evOk N (j : Int) N = true := by simp [evOk, inB_true]; omega
        have hev2 : evOk 0 (j : Int) N = true := by simp [evOk, inB_true]; omega
        have HE1 := Lib.hid (fun w => impl_EvalPatch t0 t1 t2 t3 t4 t5 t6 t7 t8 t9 t10 t11 N (j : Int) N hev w)
        have HE2 := Lib.hid (fun w => impl_EvalPatch t3 t4 t5 s3 s4 s5 t9 t10 t11 s9 s10 s11 0 (j : Int) N hev2 w)
        simp only [evV] at HE1 HE2
        rw [← ev_edge t3 t9 t0 t6 s3 s9 N (j : Int), ← ev_edge t4 t10 t1 t7 s4 s10 N (j : Int), ← ev_edge t5 t11 t2 t8 s5 s11 N (j : Int)] at HE2
        generalize evI t0 t3 t6 t9 N (j : Int) N = E0 at HE1 HE2
        generalize evI t1 t4 t7 t10 N (j : Int) N = E1 at HE1 HE2
        generalize evI t2 t5 t8 t11 N (j : Int) N = E2 at HE1 HE2
        have hve := vecEq_self E0 E1 E2
        clear hev hev2
        go_wp2
        refine region_qt 9 (by kernel_rfl) (by kernel_rfl) ?_
        simp only [List.take_succ_cons, List.take_zero, List.drop_succ_cons, List.drop_zero]
        repeat (quiet_step (fail))
        (refine wpQuiet_step (fun K hK => ?_); go_simp; refine ⟨_, fun zt => ext_below (HE1.out _), hK _ ?_⟩; clear hK K)
        repeat (quiet_step (fail))
        (refine wpQuiet_step (fun K hK => ?_); go_simp; refine ⟨_, fun zt => ext_below (HE2.out _), hK _ ?_⟩; clear hK K)
        repeat (quiet_step (fail))
        (refine wpQuiet_nil ?_; intro X nX)
        go_wp2
        go_roundw
        case rel => exact ⟨j + 1, by omega, by go_num, Below.more HBEL.out HBEL.out.size _ _⟩
        case measure => simp [intOf]; omega
      · go_wp2
        rename World => wa
        go_loopw [8] (fun i wr => ∃ m : Nat, (m : Int) ≤ N ∧ i = .int .i64 m ∧ Below wa.heap.size wa wr) (fun i _ => N.toNat - (intOf i).toNat)
        case atStart => exact ⟨0, by omega, rfl, Below.refl _ _⟩
        case round =>
          obtain ⟨m, hm, rfl, hbel2⟩ := hrel
          have HBE2 := Lib.hid hbel2
          have hsz2 := hbel2.size
          have l11 : w1.heap.size < wr.heap.size := by omega
          have l12 : w2.heap.size < wr.heap.size := by omega
          have l13 : w3.heap.size < wr.heap.size := by omega
          replace d0 := cell_below hbel2 d0
          replace e0 := cell_below hbel2 e0
          replace d1 := cell_below hbel2 d1
          replace e1 := cell_below hbel2 e1
          replace d2 := cell_below hbel2 d2
          replace e2 := cell_below hbel2 e2
          replace d3 := cell_below hbel2 d3
          replace e3 := cell_below hbel2 e3
          replace d4 := cell_below hbel2 d4
          replace e4 := cell_below hbel2 e4
          replace d5 := cell_below hbel2 d5
          replace e5 := cell_below hbel2 e5
          replace d6 := cell_below hbel2 d6
          replace e6 := cell_below hbel2 e6
          replace d7 := cell_below hbel2 d7
          replace e7 := cell_below hbel2 e7
          replace d8 := cell_below hbel2 d8
          replace e8 := cell_below hbel2 e8
          replace d9 := cell_below hbel2 d9
          replace e9 := cell_below hbel2 e9
          replace d10 := cell_below hbel2 d10
          replace e10 := cell_below hbel2 e10
          replace d11 := cell_below hbel2 d11
          replace e11 := cell_below hbel2 e11
          replace c0 := cell_below hbel2 c0
          replace c1 := cell_below hbel2 c1
          replace c2 := cell_below hbel2 c2
          replace c3 := cell_below hbel2 c3
          replace c4 := cell_below hbel2 c4
          replace c5 := cell_below hbel2 c5
          replace c6 := cell_below hbel2 c6
          clear hbel2
          by_cases hlt2 : (m : Int) < N
          · have qn : IntKind.i64.wrap (N - 1) = N - 1 := IntWalk.i64_in _ (by omega)
            have HC1 := Lib.hid (fun w => impl_DiceCell_q (⟨cW, cH, cZ, cN, cD, cL, cF⟩ : CamD) (⟨t0, t1, t2, t3, t4, t5, t6, t7, t8, t9, t10, t11⟩ : PatD) (N - 1) (m : Int) N 3 (-5) w)
            have HC2 := Lib.hid (fun w => impl_DiceCell_q (⟨cW, cH, cZ, cN, cD, cL, cF⟩ : CamD) (⟨t3, t4, t5, s3, s4, s5, t9, t10, t11, s9, s10, s11⟩ : PatD) 0 (m : Int) N 3 (-5) w)
            have HJ := Lib.hid (fun h1 h2 => cells_join (c := (⟨cW, cH, cZ, cN, cD, cL, cF⟩ : CamD)) (a := (⟨t0, t1, t2, t3, t4, t5, t6, t7, t8, t9, t10, t11⟩ : PatD)) (b := (⟨s0, s1, s2, s3, s4, s5, s6, s7, s8, s9, s10, s11⟩ : PatD)) (n := N) (j := (m : Int)) (lx := 3) (ly := -5) h1 h2)
            simp only [joinP] at HJ
            generalize dcD (⟨cW, cH, cZ, cN, cD, cL, cF⟩ : CamD) (⟨t0, t1, t2, t3, t4, t5, t6, t7, t8, t9, t10, t11⟩ : PatD) (N - 1) (m : Int) N 3 (-5) = la at HC1 HJ
            generalize dcD (⟨cW, cH, cZ, cN, cD, cL, cF⟩ : CamD) (⟨t3, t4, t5, s3, s4, s5, t9, t10, t11, s9, s10, s11⟩ : PatD) 0 (m : Int) N 3 (-5) = lb at HC2 HJ
            go_wp2_with (go_at_call 26; refine (HC1.out _).mono ?_; clear HC1; rintro e wq hq; obtain ⟨r, rfl, hr, hb⟩ := hq.r; have HR := Lib.hid hr; have HBQ := Lib.hid hb; clear hq hr hb; replace c0 := cell_below HBQ.out c0; replace c1 := cell_below HBQ.out c1; replace c2 := cell_below HBQ.out c2; replace c3 := cell_below HBQ.out c3; replace c4 := cell_below HBQ.out c4; replace c5 := cell_below HBQ.out c5; replace c6 := cell_below HBQ.out c6; replace e0 := cell_below HBQ.out e0; replace e1 := cell_below HBQ.out e1; replace e2 := cell_below HBQ.out e2; replace e3 := cell_below HBQ.out e3; replace e4 := cell_below HBQ.out e4; replace e5 := cell_below HBQ.out e5; replace e6 := cell_below HBQ.out e6; replace e7 := cell_below HBQ.out e7; replace e8 := cell_below HBQ.out e8; replace e9 := cell_below HBQ.out e9; replace e10 := cell_below HBQ.out e10; replace e11 := cell_below HBQ.out e11)
            refine (HC2.out _).mono ?_
            rintro e wz hq2
            obtain ⟨r2, rfl, hr2, hb2⟩ := hq2.r
            have hrz := HR.out.below hb2
            have HBZ := Lib.hid (show Below wa.heap.size wa wz from (HBE2.out.trans (HBQ.out.mono HBE2.out.size)).trans (hb2.mono (Nat.le_trans HBE2.out.size HBQ.out.size)))
            clear hq2 hb2
            rcases hrz with ⟨hla, rfl⟩ | ⟨hla, g1, rfl, hg1⟩
            · clear hr2
              go_wp2
              (first | refine region_q2 (by kernel_rfl) (by kernel_rfl) ?_ | refine region_q (by kernel_rfl) (by kernel_rfl) ?_)
              repeat (first | go_big_quiet_skip | (go_big_quiet_want; go_simp; go_big_quiet_on))
              (refine wpQuiet_nil ?_; intro X nX)
              go_wp2
              go_roundw
              case rel => exact ⟨m + 1, by omega, by go_num, Below.more HBZ.out (by have := HBZ.out.size; omega) _ _⟩
              case measure => simp [intOf]; omega
            · rcases hr2 with ⟨hlb, rfl⟩ | ⟨hlb, g2, rfl, hg2⟩
              · clear hg1
                go_wp2
                (first | refine region_q2 (by kernel_rfl) (by kernel_rfl) ?_ | refine region_q (by kernel_rfl) (by kernel_rfl) ?_)
                repeat (first | go_big_quiet_skip | (go_big_quiet_want; go_simp; go_big_quiet_on))
                (refine wpQuiet_nil ?_; intro X nX)
                go_wp2
                go_roundw
                case rel => exact ⟨m + 1, by omega, by go_num, Below.more HBZ.out (by have := HBZ.out.size; omega) _ _⟩
                case measure => simp [intOf]; omega
              · obtain ⟨m1, m2, rfl⟩ := len_two hla
                obtain ⟨n1, n2, rfl⟩ := len_two hlb
                obtain ⟨_, _, rfl, rfl, _, _, hxy⟩ := HJ.out (by simp) (by simp)
                obtain ⟨j0, j1, j2⟩ := hxy m1 n1 rfl rfl
                have z0 : wz.cell? ⟨g1, 3, none⟩ = some (.int .i64 m1.f3) := by rw [cell_of_row wz _ 3 _ _ (0, 0) hg1]; rfl
                have z1 : wz.cell? ⟨g1, 4, none⟩ = some (.int .i64 m1.f4) := by rw [cell_of_row wz _ 4 _ _ (0, 0) hg1]; rfl
                have z2 : wz.cell? ⟨g1, 5, none⟩ = some (.int .i64 m1.f5) := by rw [cell_of_row wz _ 5 _ _ (0, 0) hg1]; rfl
                have y0 : wz.cell? ⟨g2, 0, none⟩ = some (.int .i64 m1.f3) := by rw [cell_of_row wz _ 0 _ _ (0, 0) hg2, j0]; rfl
                have y1 : wz.cell? ⟨g2, 1, none⟩ = some (.int .i64 m1.f4) := by rw [cell_of_row wz _ 1 _ _ (0, 0) hg2, j1]; rfl
                have y2 : wz.cell? ⟨g2, 2, none⟩ = some (.int .i64 m1.f5) := by rw [cell_of_row wz _ 2 _ _ (0, 0) hg2, j2]; rfl
                have lg1 := (Array.getElem?_eq_some_iff.1 hg1).1
                have lg2 := (Array.getElem?_eq_some_iff.1 hg2).1
                have hve := vecEq_self m1.f3 m1.f4 m1.f5
                clear hg1 hg2 j0 j1 j2 hxy
                go_wp2
                (first | refine region_q2 (by kernel_rfl) (by kernel_rfl) ?_ | refine region_q (by kernel_rfl) (by kernel_rfl) ?_)
                repeat (first | go_big_quiet_skip | (go_big_quiet_want; go_simp; go_big_quiet_on))
                (refine wpQuiet_nil ?_; intro X nX)
                go_wp2
                go_roundw
                case rel => exact ⟨m + 1, by omega, by go_num, Below.more HBZ.out (by have := HBZ.out.size; omega) _ _⟩
                case measure => simp [intOf]; omega
          · go_wp2
            have hv0 : evOk 0 0 N = true := by simp [evOk, inB_true]; omega
            have HE3 := Lib.hid (fun w => impl_EvalPatch t3 t4 t5 s3 s4 s5 t9 t10 t11 s9 s10 s11 0 0 N hv0 w)
            have k3 := HTA.out.b3
            have k4 := HTA.out.b4
            have k5 := HTA.out.b5
            simp only [evV] at HE3
            rw [ev_corner t3 s3 t9 s9 N hN1 (by omega), ev_corner t4 s4 t10 s10 N hN1 (by omega), ev_corner t5 s5 t11 s11 N hN1 (by omega)] at HE3
            have hve := vecEq_self t3 t4 t5
            refine region_qt 6 (by kernel_rfl) (by kernel_rfl) ?_
            simp only [List.take_succ_cons, List.take_zero, List.drop_succ_cons, List.drop_zero]
            repeat (quiet_step (fail))
            (refine wpQuiet_step (fun K hK => ?_); go_simp; refine ⟨_, fun zt => ext_below (HE3.out _), hK _ ?_⟩; clear hK K)
            repeat (quiet_step (fail))
            (refine wpQuiet_nil ?_; intro X nX)
            go_wp2
            go_ret
            have hw4 : W.heap.size ≤ w4.heap.size := B4.out.size
            refine ⟨rfl, Below.more ((B4.out.trans (HBEL.out.mono hw4)).trans (HBE2.out.mono (by omega))) (by omega) _ _⟩
  · have hb1 : (n : Int) > 1048576 := by omega
    go_enter Try.func9, Try.ntmps9
    go_wp2
    go_ret
    exact ⟨rfl, (by repeat (first | exact Below.refl _ _ | refine Below.drew ?_ | refine Below.alloc ?_ (by first | exact Nat.le_refl _ | (simp; done) | (simp; omega) | omega) _ | refine Below.more ?_ (by first | exact Nat.le_refl _ | (simp; done) | (simp; omega) | omega) _ _ | refine Below.setCell ?_ (by first | exact Nat.le_refl _ | (simp; done) | (simp; omega) | omega) _ | assumption))⟩
end Go.Proofs.Ytkdkdejgajcneaa
