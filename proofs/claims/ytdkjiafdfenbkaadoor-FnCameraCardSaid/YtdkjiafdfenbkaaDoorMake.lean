/- Draws: cameras and patches. -/
import Derived.Test.YtdkjiafdfenbkaaDoorDraw
import Derived.Test.YtdkjiafdfenbkaaDoorCam
import Derived.Test.YtdkjiafdfenbkaaDoorInterp
import Derived.Test.YtdkjiafdfenbkaaDoorPutO
namespace Go.Proofs.YtdkjiafdfenbkaaDoor
open Go Go.RowKit
/-- The cursor, the result's block, the variable's block. -/
structure TwoB (g B2 B3 : Nat) (z v : List Value) (T : TypeId) (w0 w : World) : Prop where
  cur : Cur w g
  c2 : w.heap[B2]? = some (.cells ⟨z⟩ T (0, 0))
  c3 : w.heap[B3]? = some (.cells ⟨v⟩ T (0, 0))
  chg : Chg g (g + 1) w0 w
  h0 : w0.heap.size = B2
  h1 : g < B2
  h2 : B2 < B3
theorem TwoB.step {g B2 B3 : Nat} {z v : List Value} {T : TypeId} {w0 w w' : World} (h : TwoB g B2 B3 z v T w0 w) (s : Step g w w') : TwoB g B2 B3 z v T w0 w' := by
  have h1 := h.h1; have h2 := h.h2
  exact ⟨s.1, by rw [s.2.block B2 (Array.getElem?_eq_some_iff.1 h.c2).1 (by omega)]; exact h.c2, by rw [s.2.block B3 (Array.getElem?_eq_some_iff.1 h.c3).1 (by omega)]; exact h.c3, h.chg.trans s.2, h.h0, h1, h2⟩
theorem TwoB.put {g B2 B3 : Nat} {z v : List Value} {T : TypeId} {w0 w : World} (h : TwoB g B2 B3 z v T w0 w) (v' : List Value) : TwoB g B2 B3 z v' T w0 (putB w B3 v' T) := by
  have h0 := h.h0; have h1 := h.h1; have h2 := h.h2
  exact ⟨h.cur.chg Chg.putB (by omega), by rw [heap_putB_other _ (by omega)]; exact h.c2, heap_putB (Array.getElem?_eq_some_iff.1 h.c3).1, ⟨h.chg.os, h.chg.tape, h.chg.output, by rw [size_putB]; exact h.chg.size, fun k hk ho => by rw [heap_putB_other _ (by omega)]; exact h.chg.block k hk ho⟩, h0, h1, h2⟩
theorem TwoB.lt {g B2 B3 : Nat} {z v : List Value} {T : TypeId} {w0 w : World} (h : TwoB g B2 B3 z v T w0 w) : B3 < w.heap.size := (Array.getElem?_eq_some_iff.1 h.c3).1
theorem TwoB.form {g B2 B3 : Nat} {z v : List Value} {T : TypeId} {w0 w : World} (h : TwoB g B2 B3 z v T w0 w) : putB w B3 v T = w := putB_self h.c3
theorem TwoB.form2 {g B2 B3 : Nat} {z v : List Value} {T : TypeId} {w0 w : World} (h : TwoB g B2 B3 z v T w0 w) : putB (putB w B2 z T) B3 v T = w := by
  have h2 := h.h2
  rw [putB_self h.c2, putB_self h.c3]
theorem TwoB.done {g B2 B3 : Nat} {z v : List Value} {T : TypeId} {w0 w : World} (h : TwoB g B2 B3 z v T w0 w) (z' v' : List Value) : Step g w0 (putB (putB w B2 z' T) B3 v' T) := by
  have h0 := h.h0; have h1 := h.h1; have h2 := h.h2
  exact ⟨(h.cur.chg Chg.putB (by omega)).chg Chg.putB (by omega), ⟨h.chg.os, h.chg.tape, h.chg.output, by rw [size_putB, size_putB]; exact h.chg.size, fun k hk ho => by rw [heap_putB_other _ (by omega), heap_putB_other _ (by omega)]; exact h.chg.block k hk ho⟩⟩
theorem Step.alloc {g : Nat} {w : World} {x : Obj} (h : Cur w g) : Step g w (w.alloc x) := ⟨h.below (Below.alloc (Below.refl _ _) (Nat.le_refl _) _), Chg.of_below (Below.alloc (Below.refl _ _) (Nat.le_refl _) _)⟩
theorem TwoB.start {g : Nat} {z v : List Value} {T : TypeId} {w0 w : World} (hl : g < w0.heap.size) (s : Step g (w0.alloc (.cells ⟨z⟩ T)) w) : TwoB g w0.heap.size w.heap.size z v T w0 (w.alloc (.cells ⟨v⟩ T)) := by
  have hs := s.2.size
  simp at hs
  have hb := s.2.block w0.heap.size (by simp) (by omega)
  rw [heap_alloc_new] at hb
  refine ⟨s.1.below (Below.alloc (Below.refl _ _) (Nat.le_refl _) _), ?_, heap_alloc_new _ _, ((Chg.of_below (Below.alloc (Below.refl _ _) (Nat.le_refl _) _)).trans s.2).trans (Chg.of_below (Below.alloc (Below.refl _ _) (Nat.le_refl _) _)), rfl, hl, by omega⟩
  rw [Below.block (Below.alloc (Below.refl _ _) (Nat.le_refl _) _) _ (by omega)]
  exact hb
structure CamBd (W H Z N L F : Int) : Prop where
  w : 2 ≤ W ∧ W ≤ 5
  h : 2 ≤ H ∧ H ≤ 5
  z : 60 ≤ Z ∧ Z ≤ 259
  n : 20 ≤ N ∧ N ≤ 79
  l : 0 ≤ L ∧ L ≤ 47
  f : 0 ≤ F ∧ F ≤ 259
def CamQ (g : Nat) (w : World) (e : Ending) (w' : World) : Prop := ∃ (W H Z N : Int) (D : Bool) (L F : Int), CamBd W H Z N L F ∧ e = .returned (camV W H Z N D L F) ∧ Step g w w'
@[reducible] def camL (W H Z N : Int) (D : Bool) (L F : Int) : List Value := [.int .i64 W, .int .i64 H, .int .i64 Z, .int .i64 N, .bool D, .int .i64 L, .int .i64 F]
set_option maxRecDepth 100000 in
set_option maxHeartbeats 2000000 in
theorem l08Draw_c (g : Nat) (w : World) (h : Cur w g) : Calls Tryd.prog 41 #[.pointer (some ⟨g, 0, none⟩)] w (CamQ g w) := by
  have hlt := h.lt
  have HC := Lib.hid (Step.alloc (x := .cells ⟨camL 0 0 0 0 false 0 0⟩ 31) h)
  clear h
  go_enter Tryd.func41, Tryd.ntmps41
  go_wp2_with fail
  refine (l01Below_c g 4 _ HC.out.1 (by omega) (by omega)).mono ?_
  rintro e w1 ⟨a, a1, a2, rfl, s1⟩
  go_wp2_with fail
  refine (l01Below_c g 4 _ s1.1 (by omega) (by omega)).mono ?_
  rintro e w2 ⟨b, b1, b2, rfl, s2⟩
  go_wp2_with fail
  refine (l01Below_c g 200 _ s2.1 (by omega) (by omega)).mono ?_
  rintro e w3 ⟨c, c1, c2, rfl, s3⟩
  go_wp2_with fail
  refine (l01Below_c g 60 _ s3.1 (by omega) (by omega)).mono ?_
  rintro e w4 ⟨d, d1, d2, rfl, s4⟩
  have TB := Lib.hid (TwoB.start (v := camL (2 + a) (2 + b) (60 + c) (20 + d) false 0 0) hlt (((s1.trans s2).trans s3).trans s4))
  have hz4 := TB.out.lt
  clear s1 s2 s3 s4 HC
  go_wp2_with fail
  refine (l01Once_c g 2 _ TB.out.cur (by omega) (by omega)).mono ?_
  rintro e w5 ⟨q, rfl, s5⟩
  replace TB := Lib.hid (TB.out.step s5)
  clear s5
  have hB3 : w.heap.size ≠ w4.heap.size := by have := TB.out.h2; omega
  have hB3' := hB3.symm
  have hB2' : w.heap.size < w5.heap.size := by have := TB.out.h2; have := TB.out.lt; omega
  have hB3s := TB.out.lt
  cases q
  · go_wp2_with fail
    refine (l01Once_c g 3 _ TB.out.cur (by omega) (by omega)).mono ?_
    rintro e w7 ⟨q, rfl, s⟩
    replace TB := Lib.hid (TB.out.step s)
    clear s
    have hB3w7 := TB.out.lt
    have hB2w7 : w.heap.size < w7.heap.size := by have := TB.out.h2; omega
    cases q
    · rw [← TB.out.form2]
      go_wp2
      exact bodyPost_ret (v := camV (2 + a) (2 + b) (60 + c) (20 + d) false 0 0) (by simp [results, Tryd.results41, go_sem, *]) rfl ⟨_, _, _, _, _, _, _, ⟨⟨by omega, by omega⟩, ⟨by omega, by omega⟩, ⟨by omega, by omega⟩, ⟨by omega, by omega⟩, ⟨by omega, by omega⟩, ⟨by omega, by omega⟩⟩, rfl, TB.out.done _ _⟩
    · go_wp2_with fail
      refine (l01Below_c g 40 _ TB.out.cur (by omega) (by omega)).mono ?_
      rintro e w8 ⟨x, x1, x2, rfl, s⟩
      replace TB := Lib.hid (TB.out.step s)
      have hB3w8 := TB.out.lt
      have hB2w8 : w.heap.size < w8.heap.size := by have := TB.out.h2; omega
      clear s
      rw [← TB.out.form]
      replace TB := Lib.hid (TB.out.put (camL (2 + a) (2 + b) (60 + c) (20 + d) false (8 + x) 0))
      go_wp2_with fail
      refine (l01Below_c g 200 _ TB.out.cur (by omega) (by omega)).mono ?_
      rintro e w9 ⟨y, y1, y2, rfl, s⟩
      replace TB := Lib.hid (TB.out.step s)
      have hB3w9 := TB.out.lt
      have hB2w9 : w.heap.size < w9.heap.size := by have := TB.out.h2; omega
      clear s
      rw [← TB.out.form2]
      go_wp2
      exact bodyPost_ret (v := camV (2 + a) (2 + b) (60 + c) (20 + d) false (8 + x) (60 + y)) (by simp [results, Tryd.results41, go_sem, *]) rfl ⟨_, _, _, _, _, _, _, ⟨⟨by omega, by omega⟩, ⟨by omega, by omega⟩, ⟨by omega, by omega⟩, ⟨by omega, by omega⟩, ⟨by omega, by omega⟩, ⟨by omega, by omega⟩⟩, rfl, TB.out.done _ _⟩
  · rw [← TB.out.form]
    replace TB := Lib.hid (TB.out.put (camL (2 + a) (2 + b) (60 + c) (20 + d) true 0 0))
    go_wp2_with fail
    refine (l01Below_c g 120 _ TB.out.cur (by omega) (by omega)).mono ?_
    rintro e w6 ⟨u, u1, u2, rfl, s⟩
    replace TB := Lib.hid (TB.out.step s)
    have hB3w6 := TB.out.lt
    have hB2w6 : w.heap.size < w6.heap.size := by have := TB.out.h2; omega
    clear s
    rw [← TB.out.form]
    replace TB := Lib.hid (TB.out.put (camL (2 + a) (2 + b) (60 + u) (20 + d) true 0 0))
    go_wp2_with fail
    refine (l01Once_c g 3 _ TB.out.cur (by omega) (by omega)).mono ?_
    rintro e w7 ⟨q, rfl, s⟩
    replace TB := Lib.hid (TB.out.step s)
    clear s
    have hB3w7 := TB.out.lt
    have hB2w7 : w.heap.size < w7.heap.size := by have := TB.out.h2; omega
    cases q
    · rw [← TB.out.form2]
      go_wp2
      exact bodyPost_ret (v := camV (2 + a) (2 + b) (60 + u) (20 + d) true 0 0) (by simp [results, Tryd.results41, go_sem, *]) rfl ⟨_, _, _, _, _, _, _, ⟨⟨by omega, by omega⟩, ⟨by omega, by omega⟩, ⟨by omega, by omega⟩, ⟨by omega, by omega⟩, ⟨by omega, by omega⟩, ⟨by omega, by omega⟩⟩, rfl, TB.out.done _ _⟩
    · go_wp2_with fail
      refine (l01Below_c g 40 _ TB.out.cur (by omega) (by omega)).mono ?_
      rintro e w8 ⟨x, x1, x2, rfl, s⟩
      replace TB := Lib.hid (TB.out.step s)
      have hB3w8 := TB.out.lt
      have hB2w8 : w.heap.size < w8.heap.size := by have := TB.out.h2; omega
      clear s
      rw [← TB.out.form]
      replace TB := Lib.hid (TB.out.put (camL (2 + a) (2 + b) (60 + u) (20 + d) true (8 + x) 0))
      go_wp2_with fail
      refine (l01Below_c g 200 _ TB.out.cur (by omega) (by omega)).mono ?_
      rintro e w9 ⟨y, y1, y2, rfl, s⟩
      replace TB := Lib.hid (TB.out.step s)
      have hB3w9 := TB.out.lt
      have hB2w9 : w.heap.size < w9.heap.size := by have := TB.out.h2; omega
      clear s
      rw [← TB.out.form2]
      go_wp2
      exact bodyPost_ret (v := camV (2 + a) (2 + b) (60 + u) (20 + d) true (8 + x) (60 + y)) (by simp [results, Tryd.results41, go_sem, *]) rfl ⟨_, _, _, _, _, _, _, ⟨⟨by omega, by omega⟩, ⟨by omega, by omega⟩, ⟨by omega, by omega⟩, ⟨by omega, by omega⟩, ⟨by omega, by omega⟩, ⟨by omega, by omega⟩⟩, rfl, TB.out.done _ _⟩
def GivesCam (w : World) (e : Ending) (w' : World) : Prop := ∃ (W H Z N : Int) (D : Bool) (L F : Int), CamBd W H Z N L F ∧ e = .returned (camV W H Z N D L F) ∧ Below w.heap.size w w'
set_option maxRecDepth 100000 in
theorem MakeCamera_c (a : Option Addr) (n cap : Nat) (C : Nat → Nat) (w : World) (hb : BS w a n C) (hn : n ≤ 1048576) :
    Calls Tryd.prog 19 #[.slice a n cap] w (GivesCam w) := by
  have HB := Lib.hid (hb.below (Below.alloc (Below.refl _ _) (Nat.le_refl _) (.cells ⟨camL 0 0 0 0 false 0 0⟩ 31)))
  clear hb
  go_enter Tryd.func19, Tryd.ntmps19
  go_wp2_with fail
  refine (l01New_c a n cap C _ HB.out hn).mono ?_
  rintro e w1 ⟨g, rfl, hg, hc, hbel⟩
  simp at hg
  go_wp2_with fail
  refine (l08Draw_c g w1 hc).mono ?_
  rintro e w2 ⟨W, H, Z, N, D, L, F, hbd, rfl, s1⟩
  have hb2 := hbel.block w.heap.size (by simp)
  rw [heap_alloc_new] at hb2
  have hs1 := hbel.size
  simp at hs1
  have hb3 := s1.2.block w.heap.size (by omega) (.inl (by omega))
  rw [hb2] at hb3
  have hs2 := s1.2.size
  have HE := Lib.hid (show Below w.heap.size w w2 from Below.chg ((Below.alloc (Below.refl _ _) (Nat.le_refl _) _).trans (hbel.mono (by simp))) s1.2 (by omega) (by omega))
  rw [← putB_self hb3]
  have hl2 : w.heap.size < w2.heap.size := by omega
  clear hb2 hb3 hbel s1 hc
  have HD := Lib.hid hbd
  clear hbd
  go_wp2
  exact bodyPost_ret (v := camV W H Z N D L F) (by simp [results, Tryd.results19, go_sem, hl2]) rfl ⟨_, _, _, _, _, _, _, HD.out, rfl, HE.out.trans (Below.putB (Nat.le_refl _))⟩
theorem MakeNum_k (a : Option Addr) (n cap : Nat) (C : Nat → Nat) (k : Int) (w : World) (hb : BS w a n C) (hn : n ≤ 1048576) (h0 : 0 ≤ k) (h1 : k ≤ 100) :
    Calls Tryd.prog 21 #[.slice a n cap, .int .i64 k] w (GivesNum w) := by
  obtain ⟨m, rfl⟩ := Int.eq_ofNat_of_zero_le h0
  exact MakeNum_c a n cap C m w hb hn (by omega)
end Go.Proofs.YtdkjiafdfenbkaaDoor
