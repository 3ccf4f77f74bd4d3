/- The walk of the law FnMotion: a moving patch starts and ends at its two positions, and stays between them. -/
import Derived.Test.YtkdkdejgajcneaaMake
import Derived.Test.YtkdkdejgajcneaaBox2
namespace Go.Proofs.Ytkdkdejgajcneaa
open Go Go.RowKit Go.ChangeShapes
theorem equal_vec4 {d : Nat} (a b c e f g h i j k l m a' b' c' e' f' g' h' i' j' k' l' m' : Int) (w : World) :
    (Op.equalIn (d + 3) 28 (.agg #[.int .i64 a, .int .i64 b, .int .i64 c, .int .i64 e, .int .i64 f, .int .i64 g, .int .i64 h, .int .i64 i, .int .i64 j, .int .i64 k, .int .i64 l, .int .i64 m]) (.agg #[.int .i64 a', .int .i64 b', .int .i64 c', .int .i64 e', .int .i64 f', .int .i64 g', .int .i64 h', .int .i64 i', .int .i64 j', .int .i64 k', .int .i64 l', .int .i64 m'])).run Try.prog w
      = .ok (vecEq a b c a' b' c' && (vecEq e f g e' f' g' && (vecEq h i j h' i' j' && (vecEq k l m k' l' m' && true)))) w := by
  have hag : (isAgg 27).run Try.prog w = .ok true w := by kernel_rfl
  have hsz : (sizeOf 27).run Try.prog w = .ok 3 w := by kernel_rfl
  rw [run_equalIn_array Try.underlying28 hsz]
  refine eqElems_cons (run_part_agg hag hsz) (run_part_agg hag hsz) (equal_vec a b c a' b' c' w) ?_
  refine eqElems_cons (run_part_agg hag hsz) (run_part_agg hag hsz) (equal_vec e f g e' f' g' w) ?_
  refine eqElems_cons (run_part_agg hag hsz) (run_part_agg hag hsz) (equal_vec h i j h' i' j' w) ?_
  refine eqElems_cons (run_part_agg hag hsz) (run_part_agg hag hsz) (equal_vec k l m k' l' m' w) ?_
  exact eqElems_nil
theorem equal_pat {d : Nat} (a b c e f g h i j k l m a' b' c' e' f' g' h' i' j' k' l' m' : Int) (w : World) :
    (Op.equalIn (d + 4) 30 (.agg #[.int .i64 a, .int .i64 b, .int .i64 c, .int .i64 e, .int .i64 f, .int .i64 g, .int .i64 h, .int .i64 i, .int .i64 j, .int .i64 k, .int .i64 l, .int .i64 m]) (.agg #[.int .i64 a', .int .i64 b', .int .i64 c', .int .i64 e', .int .i64 f', .int .i64 g', .int .i64 h', .int .i64 i', .int .i64 j', .int .i64 k', .int .i64 l', .int .i64 m'])).run Try.prog w = .ok (vecEq a b c a' b' c' && (vecEq e f g e' f' g' && (vecEq h i j h' i' j' && (vecEq k l m k' l' m' && true))) && true) w := by
  rw [run_equalIn_struct _ _ _ _ _ (by simp [Program.fieldsOf, Try.underlying30]) (by kernel_rfl)]
  simp only [Program.fieldsOf, Try.underlying30]
  have hag : (isAgg 28).run Try.prog w = .ok true w := by kernel_rfl
  have hsz : (sizeOf 28).run Try.prog w = .ok 12 w := by kernel_rfl
  refine eqFields_cons (by simp) (run_part_agg hag hsz) (run_part_agg hag hsz) (equal_vec4 a b c e f g h i j k l m a' b' c' e' f' g' h' i' j' k' l' m' w) ?_
  exact eqFields_nil
@[go_sem ↓ high] theorem run_eql_pat (a b c e f g h i j k l m : Int) (w : World) :
    (binOp .eql 30 (.agg #[.int .i64 a, .int .i64 b, .int .i64 c, .int .i64 e, .int .i64 f, .int .i64 g, .int .i64 h, .int .i64 i, .int .i64 j, .int .i64 k, .int .i64 l, .int .i64 m]) (.agg #[.int .i64 a, .int .i64 b, .int .i64 c, .int .i64 e, .int .i64 f, .int .i64 g, .int .i64 h, .int .i64 i, .int .i64 j, .int .i64 k, .int .i64 l, .int .i64 m])).run Try.prog w = .ok (.bool true) w := by
  rw [run_eql_struct, equal_pat (d := 9996)]
  simp [vecEq, go_sem]
@[go_sem ↓ high] theorem guard_pat (op : BinOp) (x y : Operand) (xs ys : Array Value) (w : World) : (eqGuard op 30 x y (.agg xs) (.agg ys)).run Try.prog w = .ok () w := run_eqGuard_agg w op _ x y xs ys (by kernel_rfl)
theorem ixp0 (y0 y1 y2 y3 y4 y5 y6 y7 y8 y9 y10 y11 : Int) (w : World) : (Instr.index 28 (patV y0 y1 y2 y3 y4 y5 y6 y7 y8 y9 y10 y11) (.int .i64 0)).run Try.prog w = .ok (.agg #[.int .i64 y0, .int .i64 y1, .int .i64 y2]) w := by kernel_rfl
theorem ixp1 (y0 y1 y2 y3 y4 y5 y6 y7 y8 y9 y10 y11 : Int) (w : World) : (Instr.index 28 (patV y0 y1 y2 y3 y4 y5 y6 y7 y8 y9 y10 y11) (.int .i64 1)).run Try.prog w = .ok (.agg #[.int .i64 y3, .int .i64 y4, .int .i64 y5]) w := by kernel_rfl
theorem ixp2 (y0 y1 y2 y3 y4 y5 y6 y7 y8 y9 y10 y11 : Int) (w : World) : (Instr.index 28 (patV y0 y1 y2 y3 y4 y5 y6 y7 y8 y9 y10 y11) (.int .i64 2)).run Try.prog w = .ok (.agg #[.int .i64 y6, .int .i64 y7, .int .i64 y8]) w := by kernel_rfl
theorem ixp3 (y0 y1 y2 y3 y4 y5 y6 y7 y8 y9 y10 y11 : Int) (w : World) : (Instr.index 28 (patV y0 y1 y2 y3 y4 y5 y6 y7 y8 y9 y10 y11) (.int .i64 3)).run Try.prog w = .ok (.agg #[.int .i64 y9, .int .i64 y10, .int .i64 y11]) w := by kernel_rfl
theorem mean_between {x y i : Int} (hi : 0 ≤ i ∧ i ≤ 16) : min x y ≤ ((16 - i) * x + i * y) / 16 ∧ ((16 - i) * x + i * y) / 16 ≤ max x y := by
  have a1 : 0 ≤ (16 - i) * (x - min x y) := Int.mul_nonneg (by omega) (by omega)
  have a2 : 0 ≤ i * (y - min x y) := Int.mul_nonneg (by omega) (by omega)
  have b1 : 0 ≤ (16 - i) * (max x y - x) := Int.mul_nonneg (by omega) (by omega)
  have b2 : 0 ≤ i * (max x y - y) := Int.mul_nonneg (by omega) (by omega)
  rw [Int.mul_sub, Int.sub_mul, Int.sub_mul] at a1 b1
  rw [Int.mul_sub] at a2 b2
  rw [Int.sub_mul]
  generalize hm : min x y = m at *
  generalize hM : max x y = M at *
  constructor
  · refine Int.le_ediv_of_mul_le (by omega) ?_
    omega
  · have : (16 * x - i * x + i * y) / 16 < M + 1 := Int.ediv_lt_of_lt_mul (by omega) (by omega)
    omega
theorem ip_between {x y i : Int} (hx : -1000 ≤ x ∧ x ≤ 1000) (hy : -1000 ≤ y ∧ y ≤ 1000) (hi : 0 ≤ i ∧ i ≤ 16) : min x y ≤ ipI x y i ∧ ipI x y i ≤ max x y := by
  have e : ipI x y i = ((16 - i) * x + i * y) / 16 := by
    unfold ipI lerpI lerpOk
    rw [if_pos (inB_true.2 hi), if_pos (by simp [inB_true, inB_true.2 hi]), fdiv_hi (by omega), cc_id (by omega), cc_id (by omega)]
  rw [e]
  exact mean_between hi
theorem ip_0 {x y : Int} (hx : -1000 ≤ x ∧ x ≤ 1000) : ipI x y 0 = x := by
  have e : ipI x y 0 = ((16 - 0) * cc x + 0 * cc y) / 16 := by
    unfold ipI lerpI lerpOk
    rw [if_pos (by decide), if_pos (by decide), fdiv_hi (by omega)]
  rw [e, cc_id (by omega)]
  omega
theorem ip_16 {x y : Int} (hy : -1000 ≤ y ∧ y ≤ 1000) : ipI x y 16 = y := by
  have e : ipI x y 16 = ((16 - 16) * cc x + 16 * cc y) / 16 := by
    unfold ipI lerpI lerpOk
    rw [if_pos (by decide), if_pos (by decide), fdiv_hi (by omega)]
  rw [e, cc_id (x := y) (by omega)]
  omega
@[reducible] def patL (t0 t1 t2 t3 t4 t5 t6 t7 t8 t9 t10 t11 : Int) : List Value := [.int .i64 t0, .int .i64 t1, .int .i64 t2, .int .i64 t3, .int .i64 t4, .int .i64 t5, .int .i64 t6, .int .i64 t7, .int .i64 t8, .int .i64 t9, .int .i64 t10, .int .i64 t11]
@[reducible] def uniL (C D : Nat → VecD) : List Value :=
  boxL (min (cc (loN (fun i => (C i).f0) 3)) (cc (loN (fun i => (D i).f0) 3))) (min (cc (loN (fun i => (C i).f1) 3)) (cc (loN (fun i => (D i).f1) 3))) (min (cc (loN (fun i => (C i).f2) 3)) (cc (loN (fun i => (D i).f2) 3)))
    (max (cc (hiN (fun i => (C i).f0) 3)) (cc (hiN (fun i => (D i).f0) 3))) (max (cc (hiN (fun i => (C i).f1) 3)) (cc (hiN (fun i => (D i).f1) 3))) (max (cc (hiN (fun i => (C i).f2) 3)) (cc (hiN (fun i => (D i).f2) 3)))
structure VSm (p : VecD) : Prop where
  a : -1000 ≤ p.f0 ∧ p.f0 ≤ 1000
  b : -1000 ≤ p.f1 ∧ p.f1 ≤ 1000
  c : -1000 ≤ p.f2 ∧ p.f2 ≤ 1000
theorem VSm.ok {p : VecD} (h : VSm p) : VOk p := ⟨by have := h.a; omega, by have := h.b; omega, by have := h.c; omega⟩
theorem in_uni {C D : Nat → VecD} {i : Nat} (hi : i ≤ 3) (hc : VSm (C i)) (hd : VSm (D i)) {t : Int} (ht : 0 ≤ t ∧ t ≤ 16) :
    InBox (min (cc (loN (fun i => (C i).f0) 3)) (cc (loN (fun i => (D i).f0) 3))) (min (cc (loN (fun i => (C i).f1) 3)) (cc (loN (fun i => (D i).f1) 3))) (min (cc (loN (fun i => (C i).f2) 3)) (cc (loN (fun i => (D i).f2) 3)))
      (max (cc (hiN (fun i => (C i).f0) 3)) (cc (hiN (fun i => (D i).f0) 3))) (max (cc (hiN (fun i => (C i).f1) 3)) (cc (hiN (fun i => (D i).f1) 3))) (max (cc (hiN (fun i => (C i).f2) 3)) (cc (hiN (fun i => (D i).f2) 3)))
      ⟨ipI (C i).f0 (D i).f0 t, ipI (C i).f1 (D i).f1 t, ipI (C i).f2 (D i).f2 t⟩ := by
  obtain ⟨⟨p1, p2⟩, ⟨p3, p4⟩, ⟨p5, p6⟩⟩ := inBnd C 3 i hi hc.ok
  obtain ⟨⟨q1, q2⟩, ⟨q3, q4⟩, ⟨q5, q6⟩⟩ := inBnd D 3 i hi hd.ok
  have r1 := ip_between hc.a hd.a ht
  have r2 := ip_between hc.b hd.b ht
  have r3 := ip_between hc.c hd.c ht
  simp only [cc_id (loN_bd _ _), cc_id (hiN_bd _ _)]
  refine ⟨⟨?_, ?_⟩, ⟨?_, ?_⟩, ⟨?_, ?_⟩⟩ <;> dsimp only <;> omega
theorem PatBd.sm {t0 t1 t2 t3 t4 t5 t6 t7 t8 t9 t10 t11 : Int} (h : PatBd t0 t1 t2 t3 t4 t5 t6 t7 t8 t9 t10 t11) : ∀ i, i < 4 → VSm (patC t0 t1 t2 t3 t4 t5 t6 t7 t8 t9 t10 t11 i) := by
  intro i hi
  have hi' : i = 0 ∨ i = 1 ∨ i = 2 ∨ i = 3 := by omega
  rcases hi' with rfl | rfl | rfl | rfl
  · exact ⟨h.b0, h.b1, h.b2⟩
  · exact ⟨h.b3, h.b4, h.b5⟩
  · exact ⟨h.b6, h.b7, h.b8⟩
  · exact ⟨h.b9, h.b10, h.b11⟩
theorem interp_0 {t0 t1 t2 t3 t4 t5 t6 t7 t8 t9 t10 t11 : Int} (h : PatBd t0 t1 t2 t3 t4 t5 t6 t7 t8 t9 t10 t11) (s0 s1 s2 s3 s4 s5 s6 s7 s8 s9 s10 s11 : Int) (w : World) :
    Calls Try.prog 38 #[patV t0 t1 t2 t3 t4 t5 t6 t7 t8 t9 t10 t11, patV s0 s1 s2 s3 s4 s5 s6 s7 s8 s9 s10 s11, .int .i64 0] w fun e w' => e = .returned (patV t0 t1 t2 t3 t4 t5 t6 t7 t8 t9 t10 t11) ∧ Below w.heap.size w w' := by
  have := impl_InterpolatePatch t0 t1 t2 t3 t4 t5 t6 t7 t8 t9 t10 t11 s0 s1 s2 s3 s4 s5 s6 s7 s8 s9 s10 s11 0 w
  rw [ip_0 h.b0, ip_0 h.b1, ip_0 h.b2, ip_0 h.b3, ip_0 h.b4, ip_0 h.b5, ip_0 h.b6, ip_0 h.b7, ip_0 h.b8, ip_0 h.b9, ip_0 h.b10, ip_0 h.b11] at this
  exact this
theorem interp_16 (t0 t1 t2 t3 t4 t5 t6 t7 t8 t9 t10 t11 : Int) {s0 s1 s2 s3 s4 s5 s6 s7 s8 s9 s10 s11 : Int} (h : PatBd s0 s1 s2 s3 s4 s5 s6 s7 s8 s9 s10 s11) (w : World) :
    Calls Try.prog 38 #[patV t0 t1 t2 t3 t4 t5 t6 t7 t8 t9 t10 t11, patV s0 s1 s2 s3 s4 s5 s6 s7 s8 s9 s10 s11, .int .i64 16] w fun e w' => e = .returned (patV s0 s1 s2 s3 s4 s5 s6 s7 s8 s9 s10 s11) ∧ Below w.heap.size w w' := by
  have := impl_InterpolatePatch t0 t1 t2 t3 t4 t5 t6 t7 t8 t9 t10 t11 s0 s1 s2 s3 s4 s5 s6 s7 s8 s9 s10 s11 16 w
  rw [ip_16 h.b0, ip_16 h.b1, ip_16 h.b2, ip_16 h.b3, ip_16 h.b4, ip_16 h.b5, ip_16 h.b6, ip_16 h.b7, ip_16 h.b8, ip_16 h.b9, ip_16 h.b10, ip_16 h.b11] at this
  exact this
set_option maxRecDepth 100000 in
set_option maxHeartbeats 8000000 in
theorem law_Motion {H : Type} {enc : TypeId × Value → H} {W : World} {base : Nat} {v0 : Value} {d0 : DataW H} {p0 : List MemPlace}
    (k0 : Value.okWide Try.prog W .any base 22 v0) (h0 : DataW.Trod enc Try.prog W 0 (fun _ => true) true 22 v0 d0 p0) :
    Calls Try.prog 10 #[v0] W fun e W' => e = .returned (.bool true) ∧ Below W.heap.size W W' := by
  obtain ⟨a, cap, C, n, rfl, HB, hn⟩ := open_bytes k0 h0
  clear k0 h0
  by_cases hbig : n ≤ 1048576
  · have hb1 : ¬ (n : Int) > 1048576 := by omega
    go_enter Try.func10, Try.ntmps10
    go_wp2_with fail
    refine (MakePatch_c a n cap C 0 _ HB.out hbig (by omega) (by omega)).mono ?_
    rintro e w1 ⟨t0, t1, t2, t3, t4, t5, t6, t7, t8, t9, t10, t11, hbd, rfl, B1⟩
    have HT := Lib.hid hbd
    have B1' := Lib.hid (Below.alloc B1 B1.size (.cells ⟨patL t0 t1 t2 t3 t4 t5 t6 t7 t8 t9 t10 t11⟩ 30))
    clear hbd
    have hs1 := B1.size
    clear B1
    go_wp2_with fail
    refine (MakePatch_c a n cap C 1 _ (HB.out.below B1'.out) hbig (by omega) (by omega)).mono ?_
    rintro e w2 ⟨s0, s1, s2, s3, s4, s5, s6, s7, s8, s9, s10, s11, hbd, rfl, b2⟩
    have HS := Lib.hid hbd
    have h3 : w2.heap[w1.heap.size]? = some (.cells ⟨patL t0 t1 t2 t3 t4 t5 t6 t7 t8 t9 t10 t11⟩ 30 (0, 0)) := by rw [b2.block _ (by simp), heap_alloc_new]
    have l3 := (Array.getElem?_eq_some_iff.1 h3).1
    have B2 := B1'.out.trans (b2.mono (by simp; omega))
    have B2' := Lib.hid (Below.alloc B2 B2.size (.cells ⟨patL s0 s1 s2 s3 s4 s5 s6 s7 s8 s9 s10 s11⟩ 30))
    have H3 := Lib.hid h3
    clear hbd b2 B2 B1' h3
    go_wp2_with fail
    refine (MakeNum_k a n cap C 1 _ (HB.out.below B2'.out) hbig (by omega) (by omega)).mono ?_
    rintro e w3 ⟨x, x1, x2, rfl, b3⟩
    have h4 : w3.heap[w2.heap.size]? = some (.cells ⟨patL s0 s1 s2 s3 s4 s5 s6 s7 s8 s9 s10 s11⟩ 30 (0, 0)) := by rw [b3.block _ (by simp), heap_alloc_new]
    have h3 : w3.heap[w1.heap.size]? = some (.cells ⟨patL t0 t1 t2 t3 t4 t5 t6 t7 t8 t9 t10 t11⟩ 30 (0, 0)) := by rw [b3.block _ (by simp; omega), Below.block (Below.alloc (Below.refl _ _) (Nat.le_refl _) _) _ l3]; exact H3.out
    have l4 := (Array.getElem?_eq_some_iff.1 h4).1
    have l3' : w1.heap.size < w3.heap.size := by omega
    have B3 := Lib.hid (B2'.out.trans (b3.mono (by simp; omega)))
    have ne1 : w1.heap.size ≠ w2.heap.size := by omega
    have ne2 := ne1.symm
    have HP := Lib.hid (show ∀ w' : World, Below w3.heap.size w3 w' → putB (putB w' w1.heap.size (patL t0 t1 t2 t3 t4 t5 t6 t7 t8 t9 t10 t11) 30) w2.heap.size (patL s0 s1 s2 s3 s4 s5 s6 s7 s8 s9 s10 s11) 30 = w' from fun w' hb => by
      have q3 : w'.heap[w1.heap.size]? = some (.cells ⟨patL t0 t1 t2 t3 t4 t5 t6 t7 t8 t9 t10 t11⟩ 30 (0, 0)) := by rw [hb.block _ l3']; exact h3
      have q4 : w'.heap[w2.heap.size]? = some (.cells ⟨patL s0 s1 s2 s3 s4 s5 s6 s7 s8 s9 s10 s11⟩ 30 (0, 0)) := by rw [hb.block _ l4]; exact h4
      rw [putB_self q3, putB_self q4])
    clear h3 h4 b3 B2' H3
    have Y1 : ∀ m, w1.heap.size < w3.heap.size + m := fun m => by omega
    have Y2 : ∀ m k, w1.heap.size < w3.heap.size + m + k := fun m k => by omega
    have Y3 : ∀ m k j, w1.heap.size < w3.heap.size + m + k + j := fun m k j => by omega
    have Z1 : ∀ m, w2.heap.size < w3.heap.size + m := fun m => by omega
    have Z2 : ∀ m k, w2.heap.size < w3.heap.size + m + k := fun m k => by omega
    have Z3 : ∀ m k j, w2.heap.size < w3.heap.size + m + k + j := fun m k j => by omega
    rw [← HP.out w3 (Below.refl _ _)]
    have m1 := Int.emod_nonneg x (show (17 : Int) ≠ 0 by decide)
    have m2 := Int.emod_lt_of_pos x (show (0 : Int) < 17 by decide)
    have F0 := Lib.hid (in_uni (C := patC t0 t1 t2 t3 t4 t5 t6 t7 t8 t9 t10 t11) (D := patC s0 s1 s2 s3 s4 s5 s6 s7 s8 s9 s10 s11) (i := 0) (by omega) (HT.out.sm 0 (by omega)) (HS.out.sm 0 (by omega)) (t := x % 17) ⟨m1, by omega⟩)
    have F1 := Lib.hid (in_uni (C := patC t0 t1 t2 t3 t4 t5 t6 t7 t8 t9 t10 t11) (D := patC s0 s1 s2 s3 s4 s5 s6 s7 s8 s9 s10 s11) (i := 1) (by omega) (HT.out.sm 1 (by omega)) (HS.out.sm 1 (by omega)) (t := x % 17) ⟨m1, by omega⟩)
    have F2 := Lib.hid (in_uni (C := patC t0 t1 t2 t3 t4 t5 t6 t7 t8 t9 t10 t11) (D := patC s0 s1 s2 s3 s4 s5 s6 s7 s8 s9 s10 s11) (i := 2) (by omega) (HT.out.sm 2 (by omega)) (HS.out.sm 2 (by omega)) (t := x % 17) ⟨m1, by omega⟩)
    have F3 := Lib.hid (in_uni (C := patC t0 t1 t2 t3 t4 t5 t6 t7 t8 t9 t10 t11) (D := patC s0 s1 s2 s3 s4 s5 s6 s7 s8 s9 s10 s11) (i := 3) (by omega) (HT.out.sm 3 (by omega)) (HS.out.sm 3 (by omega)) (t := x % 17) ⟨m1, by omega⟩)
    go_wp2_with fail
    refine (impl_InterpolatePatch _ _ _ _ _ _ _ _ _ _ _ _ _ _ _ _ _ _ _ _ _ _ _ _ _ _).mono ?_
    rintro e wn ⟨rfl, hbn⟩; obtain ⟨X, nX, rfl⟩ := Below.ext hbn; clear hbn
    go_wp2
    ((first | refine region_box 5 71 (boxL 0 0 0 0 0 0) (uniL (patC t0 t1 t2 t3 t4 t5 t6 t7 t8 t9 t10 t11) (patC s0 s1 s2 s3 s4 s5 s6 s7 s8 s9 s10 s11)) (by kernel_rfl) (by kernel_rfl) ?_ | refine region_box0 5 71 (boxL 0 0 0 0 0 0) (uniL (patC t0 t1 t2 t3 t4 t5 t6 t7 t8 t9 t10 t11) (patC s0 s1 s2 s3 s4 s5 s6 s7 s8 s9 s10 s11)) (by kernel_rfl) (by kernel_rfl) ?_); simp only [List.take_succ_cons, List.take_zero, List.drop_succ_cons, List.drop_zero])
    repeat (refine headS_step (fun K hK => ?_); go_simp; refine hK _ ?_; clear hK K)
    (refine headS_step (fun K hK => ?_); go_simp; refine ⟨_, fun zt => calls_stays (impl_PatchBounds _ _ _ _ _ _ _ _ _ _ _ _ _), hK _ ?_⟩; clear hK K)
    repeat (refine headS_step (fun K hK => ?_); go_simp; refine hK _ ?_; clear hK K)
    (refine headS_step (fun K hK => ?_); go_simp; refine ⟨_, fun zt => calls_stays (impl_PatchBounds _ _ _ _ _ _ _ _ _ _ _ _ _), hK _ ?_⟩; clear hK K)
    repeat (refine headS_step (fun K hK => ?_); go_simp; refine hK _ ?_; clear hK K)
    (refine headS_step (fun K hK => ?_); go_simp; refine ⟨_, fun zt => calls_stays (impl_UnionBox _ _ _ _ _ _ _ _ _ _ _ _ _), hK _ ?_⟩; clear hK K)
    repeat (refine headS_step (fun K hK => ?_); go_simp; refine hK _ ?_; clear hK K)
    refine headS_nil ?_
    refine tail_box (by go_simp) (fun X d => by go_simp) (fun b => by go_simp) (fun b w hb => by go_simp) (fun b => ?_)
    refine tail_done (fun X4 X5 d hb => ?_)
    simp only [World.size_alloc, size_more] at hb
    subst hb
    simp only [Act.put, List.setIfInBounds_toArray, List.set_cons_zero, List.set_cons_succ]
    have ix0 := fun w => ixp0 (ipI t0 s0 (x % 17)) (ipI t1 s1 (x % 17)) (ipI t2 s2 (x % 17)) (ipI t3 s3 (x % 17)) (ipI t4 s4 (x % 17)) (ipI t5 s5 (x % 17)) (ipI t6 s6 (x % 17)) (ipI t7 s7 (x % 17)) (ipI t8 s8 (x % 17)) (ipI t9 s9 (x % 17)) (ipI t10 s10 (x % 17)) (ipI t11 s11 (x % 17)) w
    have ix1 := fun w => ixp1 (ipI t0 s0 (x % 17)) (ipI t1 s1 (x % 17)) (ipI t2 s2 (x % 17)) (ipI t3 s3 (x % 17)) (ipI t4 s4 (x % 17)) (ipI t5 s5 (x % 17)) (ipI t6 s6 (x % 17)) (ipI t7 s7 (x % 17)) (ipI t8 s8 (x % 17)) (ipI t9 s9 (x % 17)) (ipI t10 s10 (x % 17)) (ipI t11 s11 (x % 17)) w
    have ix2 := fun w => ixp2 (ipI t0 s0 (x % 17)) (ipI t1 s1 (x % 17)) (ipI t2 s2 (x % 17)) (ipI t3 s3 (x % 17)) (ipI t4 s4 (x % 17)) (ipI t5 s5 (x % 17)) (ipI t6 s6 (x % 17)) (ipI t7 s7 (x % 17)) (ipI t8 s8 (x % 17)) (ipI t9 s9 (x % 17)) (ipI t10 s10 (x % 17)) (ipI t11 s11 (x % 17)) w
    have ix3 := fun w => ixp3 (ipI t0 s0 (x % 17)) (ipI t1 s1 (x % 17)) (ipI t2 s2 (x % 17)) (ipI t3 s3 (x % 17)) (ipI t4 s4 (x % 17)) (ipI t5 s5 (x % 17)) (ipI t6 s6 (x % 17)) (ipI t7 s7 (x % 17)) (ipI t8 s8 (x % 17)) (ipI t9 s9 (x % 17)) (ipI t10 s10 (x % 17)) (ipI t11 s11 (x % 17)) w
    go_wp2
    refine wp_loop_rounds 5 ?_
    rw [rounds_succ]
    go_wp2_with fail
    refine (impl_BoxContains _ _ _ _ _ _ _ _ _ F0.out _).mono ?_
    rintro e wn ⟨rfl, hbn⟩; obtain ⟨X, nX, rfl⟩ := Below.ext hbn; clear hbn
    go_wp2
    rw [rounds_succ]
    go_wp2_with fail
    refine (impl_BoxContains _ _ _ _ _ _ _ _ _ F1.out _).mono ?_
    rintro e wn ⟨rfl, hbn⟩; obtain ⟨X, nX, rfl⟩ := Below.ext hbn; clear hbn
    go_wp2
    rw [rounds_succ]
    go_wp2_with fail
    refine (impl_BoxContains _ _ _ _ _ _ _ _ _ F2.out _).mono ?_
    rintro e wn ⟨rfl, hbn⟩; obtain ⟨X, nX, rfl⟩ := Below.ext hbn; clear hbn
    go_wp2
    rw [rounds_succ]
    go_wp2_with fail
    refine (impl_BoxContains _ _ _ _ _ _ _ _ _ F3.out _).mono ?_
    rintro e w9 ⟨rfl, b9⟩
    have b9' : Below w3.heap.size (putB (putB w3 w1.heap.size (patL t0 t1 t2 t3 t4 t5 t6 t7 t8 t9 t10 t11) 30) w2.heap.size (patL s0 s1 s2 s3 s4 s5 s6 s7 s8 s9 s10 s11) 30) w9 := Below.trans (B := w3.heap.size) (by rw [← show (putB (putB w3 w1.heap.size (patL t0 t1 t2 t3 t4 t5 t6 t7 t8 t9 t10 t11) 30) w2.heap.size (patL s0 s1 s2 s3 s4 s5 s6 s7 s8 s9 s10 s11) 30).heap.size = w3.heap.size by simp]; exact (by repeat (first | exact Below.refl _ _ | refine Below.drew ?_ | refine Below.alloc ?_ (by first | exact Nat.le_refl _ | (simp; done) | (simp; omega) | omega) _ | refine Below.more ?_ (by first | exact Nat.le_refl _ | (simp; done) | (simp; omega) | omega) _ _ | refine Below.setCell ?_ (by first | exact Nat.le_refl _ | (simp; done) | (simp; omega) | omega) _ | assumption))) (b9.mono (by simp; omega))
    rw [HP.out w3 (Below.refl _ _)] at b9'
    have l3'' : w1.heap.size < w9.heap.size := by have := b9'.size; omega
    have l4'' : w2.heap.size < w9.heap.size := by have := b9'.size; omega
    have B9 := Lib.hid (B3.out.trans (b9'.mono B3.out.size))
    rw [← HP.out w9 b9']
    clear b9 b9'
    go_wp2
    clear ix0 ix1 ix2 ix3
    rw [rounds_succ]
    go_wp2
    ((first | refine region_qt2 12 (by kernel_rfl) (by kernel_rfl) ?_ | refine region_qt 12 (by kernel_rfl) (by kernel_rfl) ?_); simp only [List.take_succ_cons, List.take_zero, List.drop_succ_cons, List.drop_zero])
    repeat (quiet_step (fail))
    (refine wpQuiet_step (fun K hK => ?_); go_simp; refine ⟨_, fun zt => ext_below (interp_0 HT.out _ _ _ _ _ _ _ _ _ _ _ _ _), hK _ ?_⟩; clear hK K)
    repeat (quiet_step (fail))
    (refine wpQuiet_step (fun K hK => ?_); go_simp; refine ⟨_, fun zt => ext_below (interp_16 _ _ _ _ _ _ _ _ _ _ _ _ HS.out _), hK _ ?_⟩; clear hK K)
    repeat (quiet_step (fail))
    (refine wpQuiet_nil ?_; intro X nX)
    go_wp2
    go_ret
    refine ⟨rfl, ?_⟩
    refine Below.more ?_ (by simp; have := B9.out.size; omega) _ _
    exact (B9.out.trans (Below.putB (by omega))).trans (Below.putB (by omega))
  · have hb1 : (n : Int) > 1048576 := by omega
    go_enter Try.func10, Try.ntmps10
    go_wp2
    go_ret
    exact ⟨rfl, (by repeat (first | exact Below.refl _ _ | refine Below.drew ?_ | refine Below.alloc ?_ (by first | exact Nat.le_refl _ | (simp; done) | (simp; omega) | omega) _ | refine Below.more ?_ (by first | exact Nat.le_refl _ | (simp; done) | (simp; omega) | omega) _ _ | refine Below.setCell ?_ (by first | exact Nat.le_refl _ | (simp; done) | (simp; omega) | omega) _ | assumption))⟩
end Go.Proofs.Ytkdkdejgajcneaa
