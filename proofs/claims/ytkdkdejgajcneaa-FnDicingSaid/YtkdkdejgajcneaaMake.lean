/- Draws: cameras and patches. -/
import Derived.Test.YtkdkdejgajcneaaDraw
import Derived.Test.YtkdkdejgajcneaaCam
import Derived.Test.YtkdkdejgajcneaaInterp
import Derived.Test.YtkdkdejgajcneaaPutO
namespace Go.Proofs.Ytkdkdejgajcneaa
open Go Go.RowKit
/-- The cursor, the result's block, the variable's block. -/
structure TwoB (g B2 B3 : Nat) (z v : List Value) (T : TypeId) (w0 w : World) : Prop where
  cur : Cur w g
  c2 : w.heap[B2]? = some (.cells ⟨z⟩ T (0, 0))
  c3 : w.heap[B3]? = some (.cells ⟨v⟩ T (0, 0))
  chg : Chg g (g + 1) w0 w
  h0 : w0.heap.size = B2
  h1 : g < B2
  h2 : B2 < B3
theorem TwoB.step {g B2 B3 : Nat} {z v : List Value} {T : TypeId} {w0 w w' : World} (h : TwoB g B2 B3 z v T w0 w) (s : Step g w w') : TwoB g B2 B3 z v T w0 w' := by
  have h1 := h.h1; have h2 := h.h2
  exact ⟨s.1, by rw [s.2.block B2 (Array.getElem?_eq_some_iff.1 h.c2).1 (by omega)]; exact h.c2, by rw [s.2.block B3 (Array.getElem?_eq_some_iff.1 h.c3).1 (by omega)]; exact h.c3, h.chg.trans s.2, h.h0, h1, h2⟩
theorem TwoB.put {g B2 B3 : Nat} {z v : List Value} {T : TypeId} {w0 w : World} (h : TwoB g B2 B3 z v T w0 w) (v' : List Value) : TwoB g B2 B3 z v' T w0 (putB w B3 v' T) := by
  have h0 := h.h0; have h1 := h.h1; have h2 := h.h2
  exact ⟨h.cur.chg Chg.putB (by omega), by rw [heap_putB_other _ (by omega)]; exact h.c2, heap_putB (Array.getElem?_eq_some_iff.1 h.c3).1, ⟨h.chg.os, h.chg.tape, h.chg.output, by rw [size_putB]; exact h.chg.size, fun k hk ho => by rw [heap_putB_other _ (by omega)]; exact h.chg.block k hk ho⟩, h0, h1, h2⟩
theorem TwoB.lt {g B2 B3 : Nat} {z v : List Value} {T : TypeId} {w0 w : World} (h : TwoB g B2 B3 z v T w0 w) : B3 < w.heap.size := (Array.getElem?_eq_some_iff.1 h.c3).1
theorem TwoB.form {g B2 B3 : Nat} {z v : List Value} {T : TypeId} {w0 w : World} (h : TwoB g B2 B3 z v T w0 w) : putB w B3 v T = w := putB_self h.c3
theorem TwoB.form2 {g B2 B3 : Nat} {z v : List Value} {T : TypeId} {w0 w : World} (h : TwoB g B2 B3 z v T w0 w) : putB (putB w B2 z T) B3 v T = w := by
  have h2 := h.h2
  rw [putB_self h.c2, putB_self h.c3]
theorem TwoB.done {g B2 B3 : Nat} {z v : List Value} {T : TypeId} {w0 w : World} (h : TwoB g B2 B3 z v T w0 w) (z' v' : List Value) : Step g w0 (putB (putB w B2 z' T) B3 v' T) := by
  have h0 := h.h0; have h1 := h.h1; have h2 := h.h2
  exact ⟨(h.cur.chg Chg.putB (by omega)).chg Chg.putB (by omega), ⟨h.chg.os, h.chg.tape, h.chg.output, by rw [size_putB, size_putB]; exact h.chg.size, fun k hk ho => by rw [heap_putB_other _ (by omega), heap_putB_other _ (by omega)]; exact h.chg.block k hk ho⟩⟩
theorem Step.alloc {g : Nat} {w : World} {x : Obj} (h : Cur w g) : Step g w (w.alloc x) := ⟨h.below (Below.alloc (Below.refl _ _) (Nat.le_refl _) _), Chg.of_below (Below.alloc (Below.refl _ _) (Nat.le_refl _) _)⟩
theorem TwoB.start {g : Nat} {z v : List Value} {T : TypeId} {w0 w : World} (hl : g < w0.heap.size) (s : Step g (w0.alloc (.cells ⟨z⟩ T)) w) : TwoB g w0.heap.size w.heap.size z v T w0 (w.alloc (.cells ⟨v⟩ T)) := by
  have hs := s.2.size
  simp at hs
  have hb := s.2.block w0.heap.size (by simp) (by omega)
  rw [heap_alloc_new] at hb
  refine ⟨s.1.below (Below.alloc (Below.refl _ _) (Nat.le_refl _) _), ?_, heap_alloc_new _ _, ((Chg.of_below (Below.alloc (Below.refl _ _) (Nat.le_refl _) _)).trans s.2).trans (Chg.of_below (Below.alloc (Below.refl _ _) (Nat.le_refl _) _)), rfl, hl, by omega⟩
  rw [Below.block (Below.alloc (Below.refl _ _) (Nat.le_refl _) _) _ (by omega)]
  exact hb
structure CamBd (W H Z N L F : Int) : Prop where
  w : 2 ≤ W ∧ W ≤ 5
  h : 2 ≤ H ∧ H ≤ 5
  z : 60 ≤ Z ∧ Z ≤ 259
  n : 20 ≤ N ∧ N ≤ 79
  l : 0 ≤ L ∧ L ≤ 47
  f : 0 ≤ F ∧ F ≤ 259
def CamQ (g : Nat) (w : World) (e : Ending) (w' : World) : Prop := ∃ (W H Z N : Int) (D : Bool) (L F : Int), CamBd W H Z N L F ∧ e = .returned (camV W H Z N D L F) ∧ Step g w w'
@[reducible] def camL (W H Z N : Int) (D : Bool) (L F : Int) : List Value := [.int .i64 W, .int .i64 H, .int .i64 Z, .int .i64 N, .bool D, .int .i64 L, .int .i64 F]
set_option maxRecDepth 100000 in
set_option maxHeartbeats 2000000 in
theorem l08Draw_c (g : Nat) (w : World) (h : Cur w g) : Calls Try.prog 55 #[.pointer (some ⟨g, 0, none⟩)] w (CamQ g w) := by
  have hlt := h.lt
  have HC := Lib.hid (Step.alloc (x := .cells ⟨camL 0 0 0 0 false 0 0⟩ 24) h)
  clear h
  go_enter Try.func55, Try.ntmps55
  go_wp2_with fail
  refine (l01Below_c g 4 _ HC.out.1 (by omega) (by omega)).mono ?_
  rintro e w1 ⟨a, a1, a2, rfl, s1⟩
  go_wp2_with fail
  refine (l01Below_c g 4 _ s1.1 (by omega) (by omega)).mono ?_
  rintro e w2 ⟨b, b1, b2, rfl, s2⟩
  go_wp2_with fail
  refine (l01Below_c g 200 _ s2.1 (by omega) (by omega)).mono ?_
  rintro e w3 ⟨c, c1, c2, rfl, s3⟩
  go_wp2_with fail
  refine (l01Below_c g 60 _ s3.1 (by omega) (by omega)).mono ?_
  rintro e w4 ⟨d, d1, d2, rfl, s4⟩
  have TB := Lib.hid (TwoB.start (v := camL (2 + a) (2 + b) (60 + c) (20 + d) false 0 0) hlt (((s1.trans s2).trans s3).trans s4))
  have hz4 := TB.out.lt
  clear s1 s2 s3 s4 HC
  go_wp2_with fail
  refine (l01Once_c g 2 _ TB.out.cur (by omega) (by omega)).mono ?_
  rintro e w5 ⟨q, rfl, s5⟩
  replace TB := Lib.hid (TB.out.step s5)
  clear s5
  have hB3 : w.heap.size ≠ w4.heap.size := by have := TB.out.h2; omega
  have hB3' := hB3.symm
  have hB2' : w.heap.size < w5.heap.size := by have := TB.out.h2; have := TB.out.lt; omega
  have hB3s := TB.out.lt
  cases q
  · go_wp2_with fail
    refine (l01Once_c g 3 _ TB.out.cur (by omega) (by omega)).mono ?_
    rintro e w7 ⟨q, rfl, s⟩
    replace TB := Lib.hid (TB.out.step s)
    clear s
    have hB3w7 := TB.out.lt
    have hB2w7 : w.heap.size < w7.heap.size := by have := TB.out.h2; omega
    cases q
    · rw [← TB.out.form2]
      go_wp2
      exact bodyPost_ret (v := camV (2 + a) (2 + b) (60 + c) (20 + d) false 0 0) (by simp [results, Try.results55, go_sem, hB3, hB3', *]) rfl ⟨_, _, _, _, _, _, _, ⟨⟨by omega, by omega⟩, ⟨by omega, by omega⟩, ⟨by omega, by omega⟩, ⟨by omega, by omega⟩, ⟨by omega, by omega⟩, ⟨by omega, by omega⟩⟩, rfl, TB.out.done _ _⟩
    · go_wp2_with fail
      refine (l01Below_c g 40 _ TB.out.cur (by omega) (by omega)).mono ?_
      rintro e w8 ⟨x, x1, x2, rfl, s⟩
      replace TB := Lib.hid (TB.out.step s)
      have hB3w8 := TB.out.lt
      have hB2w8 : w.heap.size < w8.heap.size := by have := TB.out.h2; omega
      clear s
      rw [← TB.out.form]
      replace TB := Lib.hid (TB.out.put (camL (2 + a) (2 + b) (60 + c) (20 + d) false (8 + x) 0))
      go_wp2_with fail
      refine (l01Below_c g 200 _ TB.out.cur (by omega) (by omega)).mono ?_
      rintro e w9 ⟨y, y1, y2, rfl, s⟩
      replace TB := Lib.hid (TB.out.step s)
      have hB3w9 := TB.out.lt
      have hB2w9 : w.heap.size < w9.heap.size := by have := TB.out.h2; omega
      clear s
      rw [← TB.out.form2]
      go_wp2
      exact bodyPost_ret (v := camV (2 + a) (2 + b) (60 + c) (20 + d) false (8 + x) (60 + y)) (by simp [results, Try.results55, go_sem, hB3, hB3', *]) rfl ⟨_, _, _, _, _, _, _, ⟨⟨by omega, by omega⟩, ⟨by omega, by omega⟩, ⟨by omega, by omega⟩, ⟨by omega, by omega⟩, ⟨by omega, by omega⟩, ⟨by omega, by omega⟩⟩, rfl, TB.out.done _ _⟩
  · rw [← TB.out.form]
    replace TB := Lib.hid (TB.out.put (camL (2 + a) (2 + b) (60 + c) (20 + d) true 0 0))
    go_wp2_with fail
    refine (l01Below_c g 120 _ TB.out.cur (by omega) (by omega)).mono ?_
    rintro e w6 ⟨u, u1, u2, rfl, s⟩
    replace TB := Lib.hid (TB.out.step s)
    have hB3w6 := TB.out.lt
    have hB2w6 : w.heap.size < w6.heap.size := by have := TB.out.h2; omega
    clear s
    rw [← TB.out.form]
    replace TB := Lib.hid (TB.out.put (camL (2 + a) (2 + b) (60 + u) (20 + d) true 0 0))
    go_wp2_with fail
    refine (l01Once_c g 3 _ TB.out.cur (by omega) (by omega)).mono ?_
    rintro e w7 ⟨q, rfl, s⟩
    replace TB := Lib.hid (TB.out.step s)
    clear s
    have hB3w7 := TB.out.lt
    have hB2w7 : w.heap.size < w7.heap.size := by have := TB.out.h2; omega
    cases q
    · rw [← TB.out.form2]
      go_wp2
      exact bodyPost_ret (v := camV (2 + a) (2 + b) (60 + u) (20 + d) true 0 0) (by simp [results, Try.results55, go_sem, hB3, hB3', *]) rfl ⟨_, _, _, _, _, _, _, ⟨⟨by omega, by omega⟩, ⟨by omega, by omega⟩, ⟨by omega, by omega⟩, ⟨by omega, by omega⟩, ⟨by omega, by omega⟩, ⟨by omega, by omega⟩⟩, rfl, TB.out.done _ _⟩
    · go_wp2_with fail
      refine (l01Below_c g 40 _ TB.out.cur (by omega) (by omega)).mono ?_
      rintro e w8 ⟨x, x1, x2, rfl, s⟩
      replace TB := Lib.hid (TB.out.step s)
      have hB3w8 := TB.out.lt
      have hB2w8 : w.heap.size < w8.heap.size := by have := TB.out.h2; omega
      clear s
      rw [← TB.out.form]
      replace TB := Lib.hid (TB.out.put (camL (2 + a) (2 + b) (60 + u) (20 + d) true (8 + x) 0))
      go_wp2_with fail
      refine (l01Below_c g 200 _ TB.out.cur (by omega) (by omega)).mono ?_
      rintro e w9 ⟨y, y1, y2, rfl, s⟩
      replace TB := Lib.hid (TB.out.step s)
      have hB3w9 := TB.out.lt
      have hB2w9 : w.heap.size < w9.heap.size := by have := TB.out.h2; omega
      clear s
      rw [← TB.out.form2]
      go_wp2
      exact bodyPost_ret (v := camV (2 + a) (2 + b) (60 + u) (20 + d) true (8 + x) (60 + y)) (by simp [results, Try.results55, go_sem, hB3, hB3', *]) rfl ⟨_, _, _, _, _, _, _, ⟨⟨by omega, by omega⟩, ⟨by omega, by omega⟩, ⟨by omega, by omega⟩, ⟨by omega, by omega⟩, ⟨by omega, by omega⟩, ⟨by omega, by omega⟩⟩, rfl, TB.out.done _ _⟩
def GivesCam (w : World) (e : Ending) (w' : World) : Prop := ∃ (W H Z N : Int) (D : Bool) (L F : Int), CamBd W H Z N L F ∧ e = .returned (camV W H Z N D L F) ∧ Below w.heap.size w w'
set_option maxRecDepth 100000 in
theorem MakeCamera_c (a : Option Addr) (n cap : Nat) (C : Nat → Nat) (w : World) (hb : BS w a n C) (hn : n ≤ 1048576) :
    Calls Try.prog 15 #[.slice a n cap] w (GivesCam w) := by
  have HB := Lib.hid (hb.below (Below.alloc (Below.refl _ _) (Nat.le_refl _) (.cells ⟨camL 0 0 0 0 false 0 0⟩ 24)))
  clear hb
  go_enter Try.func15, Try.ntmps15
  go_wp2_with fail
  refine (l01New_c a n cap C _ HB.out hn).mono ?_
  rintro e w1 ⟨g, rfl, hg, hc, hbel⟩
  simp at hg
  go_wp2_with fail
  refine (l08Draw_c g w1 hc).mono ?_
  rintro e w2 ⟨W, H, Z, N, D, L, F, hbd, rfl, s1⟩
  have hb2 := hbel.block w.heap.size (by simp)
  rw [heap_alloc_new] at hb2
  have hs1 := hbel.size
  simp at hs1
  have hb3 := s1.2.block w.heap.size (by omega) (.inl (by omega))
  rw [hb2] at hb3
  have hs2 := s1.2.size
  have HE := Lib.hid (show Below w.heap.size w w2 from Below.chg ((Below.alloc (Below.refl _ _) (Nat.le_refl _) _).trans (hbel.mono (by simp))) s1.2 (by omega) (by omega))
  rw [← putB_self hb3]
  have hl2 : w.heap.size < w2.heap.size := by omega
  clear hb2 hb3 hbel s1 hc
  have HD := Lib.hid hbd
  clear hbd
  go_wp2
  exact bodyPost_ret (v := camV W H Z N D L F) (by simp [results, Try.results15, go_sem, hl2]) rfl ⟨_, _, _, _, _, _, _, HD.out, rfl, HE.out.trans (Below.putB (Nat.le_refl _))⟩
structure PatBd (t0 t1 t2 t3 t4 t5 t6 t7 t8 t9 t10 t11 : Int) : Prop where
  b0 : -1000 ≤ t0 ∧ t0 ≤ 1000
  b1 : -1000 ≤ t1 ∧ t1 ≤ 1000
  b2 : -1000 ≤ t2 ∧ t2 ≤ 1000
  b3 : -1000 ≤ t3 ∧ t3 ≤ 1000
  b4 : -1000 ≤ t4 ∧ t4 ≤ 1000
  b5 : -1000 ≤ t5 ∧ t5 ≤ 1000
  b6 : -1000 ≤ t6 ∧ t6 ≤ 1000
  b7 : -1000 ≤ t7 ∧ t7 ≤ 1000
  b8 : -1000 ≤ t8 ∧ t8 ≤ 1000
  b9 : -1000 ≤ t9 ∧ t9 ≤ 1000
  b10 : -1000 ≤ t10 ∧ t10 ≤ 1000
  b11 : -1000 ≤ t11 ∧ t11 ≤ 1000
def PatQ (g : Nat) (w : World) (e : Ending) (w' : World) : Prop := ∃ (t0 t1 t2 t3 t4 t5 t6 t7 t8 t9 t10 t11 : Int), PatBd t0 t1 t2 t3 t4 t5 t6 t7 t8 t9 t10 t11 ∧ e = .returned (patV t0 t1 t2 t3 t4 t5 t6 t7 t8 t9 t10 t11) ∧ Step g w w'
@[reducible] def zero12 : List Value := [.int .i64 0, .int .i64 0, .int .i64 0, .int .i64 0, .int .i64 0, .int .i64 0, .int .i64 0, .int .i64 0, .int .i64 0, .int .i64 0, .int .i64 0, .int .i64 0]
theorem Step.refl {g : Nat} {w : World} (h : Cur w g) : Step g w w := ⟨h, Chg.refl _ _ _⟩
set_option maxRecDepth 100000 in
set_option maxHeartbeats 4000000 in
theorem l05Draw_c (g : Nat) (w : World) (h : Cur w g) : Calls Try.prog 57 #[.pointer (some ⟨g, 0, none⟩)] w (PatQ g w) := by
  have hlt := h.lt
  have TB := Lib.hid (TwoB.start (v := zero12) hlt (Step.refl (Step.alloc (x := .cells ⟨zero12⟩ 30) h).1))
  simp only [World.size_alloc] at TB
  clear h
  have hne : w.heap.size ≠ w.heap.size + 1 := by omega
  have hne' := hne.symm
  go_enter Try.func57, Try.ntmps57
  go_wp2_with fail
  refine (l01Below_c g 160 _ TB.out.cur (by omega) (by omega)).mono ?_
  rintro e w1 ⟨x, x1, x2, rfl, s⟩
  replace TB := Lib.hid (TB.out.step s)
  clear s
  go_wp2_with fail
  refine (l01Below_c g 160 _ TB.out.cur (by omega) (by omega)).mono ?_
  rintro e w2 ⟨y, y1, y2, rfl, s⟩
  replace TB := Lib.hid (TB.out.step s)
  clear s
  go_wp2_with fail
  refine (l01Below_c g 200 _ TB.out.cur (by omega) (by omega)).mono ?_
  rintro e w3 ⟨z, z1, z2, rfl, s⟩
  replace TB := Lib.hid (TB.out.step s)
  clear s
  go_wp2
  refine wp_loop_rounds 5 ?_
  rw [rounds_succ]
  go_wp2_with fail
  refine (l01Below_c g 60 _ TB.out.cur (by omega) (by omega)).mono ?_
  rintro e v0 ⟨a0, a01, a02, rfl, s⟩
  replace TB := Lib.hid (TB.out.step s)
  clear s
  go_wp2_with fail
  refine (l01Below_c g 60 _ TB.out.cur (by omega) (by omega)).mono ?_
  rintro e v0 ⟨b0, b01, b02, rfl, s⟩
  replace TB := Lib.hid (TB.out.step s)
  clear s
  go_wp2_with fail
  refine (l01Below_c g 30 _ TB.out.cur (by omega) (by omega)).mono ?_
  rintro e v0 ⟨c0, c01, c02, rfl, s⟩
  replace TB := Lib.hid (TB.out.step s)
  clear s
  have hl0 := TB.out.lt
  have hm0 : w.heap.size < v0.heap.size := by omega
  rw [← TB.out.form]
  go_wp2
  rw [rounds_succ]
  go_wp2_with fail
  refine (l01Below_c g 60 _ (TB.out.put _).cur (by omega) (by omega)).mono ?_
  rintro e v1 ⟨a1, a11, a12, rfl, s⟩
  replace TB := Lib.hid ((TB.out.put _).step s)
  clear s
  go_wp2_with fail
  refine (l01Below_c g 60 _ TB.out.cur (by omega) (by omega)).mono ?_
  rintro e v1 ⟨b1, b11, b12, rfl, s⟩
  replace TB := Lib.hid (TB.out.step s)
  clear s
  go_wp2_with fail
  refine (l01Below_c g 30 _ TB.out.cur (by omega) (by omega)).mono ?_
  rintro e v1 ⟨c1, c11, c12, rfl, s⟩
  replace TB := Lib.hid (TB.out.step s)
  clear s
  have hl1 := TB.out.lt
  have hm1 : w.heap.size < v1.heap.size := by omega
  rw [← TB.out.form]
  go_wp2
  rw [rounds_succ]
  go_wp2_with fail
  refine (l01Below_c g 60 _ (TB.out.put _).cur (by omega) (by omega)).mono ?_
  rintro e v2 ⟨a2, a21, a22, rfl, s⟩
  replace TB := Lib.hid ((TB.out.put _).step s)
  clear s
  go_wp2_with fail
  refine (l01Below_c g 60 _ TB.out.cur (by omega) (by omega)).mono ?_
  rintro e v2 ⟨b2, b21, b22, rfl, s⟩
  replace TB := Lib.hid (TB.out.step s)
  clear s
  go_wp2_with fail
  refine (l01Below_c g 30 _ TB.out.cur (by omega) (by omega)).mono ?_
  rintro e v2 ⟨c2, c21, c22, rfl, s⟩
  replace TB := Lib.hid (TB.out.step s)
  clear s
  have hl2 := TB.out.lt
  have hm2 : w.heap.size < v2.heap.size := by omega
  rw [← TB.out.form]
  go_wp2
  rw [rounds_succ]
  go_wp2_with fail
  refine (l01Below_c g 60 _ (TB.out.put _).cur (by omega) (by omega)).mono ?_
  rintro e v3 ⟨a3, a31, a32, rfl, s⟩
  replace TB := Lib.hid ((TB.out.put _).step s)
  clear s
  go_wp2_with fail
  refine (l01Below_c g 60 _ TB.out.cur (by omega) (by omega)).mono ?_
  rintro e v3 ⟨b3, b31, b32, rfl, s⟩
  replace TB := Lib.hid (TB.out.step s)
  clear s
  go_wp2_with fail
  refine (l01Below_c g 30 _ TB.out.cur (by omega) (by omega)).mono ?_
  rintro e v3 ⟨c3, c31, c32, rfl, s⟩
  replace TB := Lib.hid (TB.out.step s)
  clear s
  have hl3 := TB.out.lt
  have hm3 : w.heap.size < v3.heap.size := by omega
  rw [← TB.out.form2]
  go_wp2
  rw [rounds_succ]
  go_wp2
  exact bodyPost_ret (v := patV (x - 80) (y - 80) (60 + z + c0) (x - 80 + (20 + a1)) (y - 80) (60 + z + c1) (x - 80) (y - 80 + (20 + b2)) (60 + z + c2) (x - 80 + (20 + a3)) (y - 80 + (20 + b3)) (60 + z + c3)) (by simp [results, Try.results57, go_sem, hne, hne', *]) rfl ⟨_, _, _, _, _, _, _, _, _, _, _, _, ⟨by omega, by omega, by omega, by omega, by omega, by omega, by omega, by omega, by omega, by omega, by omega, by omega⟩, rfl, TB.out.done _ _⟩
theorem l32New_k (a : Option Addr) (n cap : Nat) (C : Nat → Nat) (k : Int) (w : World) (hb : BS w a n C) (hn : n ≤ 1048576) (h0 : 0 ≤ k) (h1 : k ≤ 100) :
    Calls Try.prog 58 #[.slice a n cap, .int .i64 k] w (NewCur w) := by
  obtain ⟨m, rfl⟩ := Int.eq_ofNat_of_zero_le h0
  exact l32New_c a n cap C m w hb hn (by omega)
def GivesPat (w : World) (e : Ending) (w' : World) : Prop := ∃ (t0 t1 t2 t3 t4 t5 t6 t7 t8 t9 t10 t11 : Int), PatBd t0 t1 t2 t3 t4 t5 t6 t7 t8 t9 t10 t11 ∧ e = .returned (patV t0 t1 t2 t3 t4 t5 t6 t7 t8 t9 t10 t11) ∧ Below w.heap.size w w'
set_option maxRecDepth 100000 in
theorem MakePatch_c (a : Option Addr) (n cap : Nat) (C : Nat → Nat) (k : Int) (w : World) (hb : BS w a n C) (hn : n ≤ 1048576) (h0 : 0 ≤ k) (h1 : k ≤ 20) :
    Calls Try.prog 16 #[.slice a n cap, .int .i64 k] w (GivesPat w) := by
  have HB := Lib.hid (hb.below (Below.alloc (Below.refl _ _) (Nat.le_refl _) (.cells ⟨zero12⟩ 30)))
  clear hb
  go_enter Try.func16, Try.ntmps16
  go_wp2_with fail
  refine (l32New_k a n cap C _ _ HB.out hn (by omega) (by omega)).mono ?_
  rintro e w1 ⟨g, rfl, hg, hc, hbel⟩
  simp at hg
  go_wp2_with fail
  refine (l05Draw_c g w1 hc).mono ?_
  rintro e w2 ⟨t0, t1, t2, t3, t4, t5, t6, t7, t8, t9, t10, t11, hbd, rfl, s1⟩
  have hb2 := hbel.block w.heap.size (by simp)
  rw [heap_alloc_new] at hb2
  have hs1 := hbel.size
  simp at hs1
  have hb3 := s1.2.block w.heap.size (by omega) (.inl (by omega))
  rw [hb2] at hb3
  have hs2 := s1.2.size
  have HE := Lib.hid (show Below w.heap.size w w2 from Below.chg ((Below.alloc (Below.refl _ _) (Nat.le_refl _) _).trans (hbel.mono (by simp))) s1.2 (by omega) (by omega))
  rw [← putB_self hb3]
  have hl2 : w.heap.size < w2.heap.size := by omega
  clear hb2 hb3 hbel s1 hc
  have HD := Lib.hid hbd
  clear hbd
  go_wp2
  exact bodyPost_ret (v := patV t0 t1 t2 t3 t4 t5 t6 t7 t8 t9 t10 t11) (by simp [results, Try.results16, go_sem, hl2]) rfl ⟨_, _, _, _, _, _, _, _, _, _, _, _, HD.out, rfl, HE.out.trans (Below.putB (Nat.le_refl _))⟩
theorem MakeNum_k (a : Option Addr) (n cap : Nat) (C : Nat → Nat) (k : Int) (w : World) (hb : BS w a n C) (hn : n ≤ 1048576) (h0 : 0 ≤ k) (h1 : k ≤ 100) :
    Calls Try.prog 17 #[.slice a n cap, .int .i64 k] w (GivesNum w) := by
  obtain ⟨m, rfl⟩ := Int.eq_ofNat_of_zero_le h0
  exact MakeNum_c a n cap C m w hb hn (by omega)
end Go.Proofs.Ytkdkdejgajcneaa
