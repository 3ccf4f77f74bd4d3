/- Draws: vectors. -/
import Derived.Test.YtdkjiafdfenbkaaDoorMake
namespace Go.Proofs.YtdkjiafdfenbkaaDoor
open Go Go.RowKit
def VecQ (g : Nat) (w : World) (e : Ending) (w' : World) : Prop := ∃ x y z : Int, (-100 ≤ x ∧ x ≤ 299) ∧ (-100 ≤ y ∧ y ≤ 299) ∧ (0 ≤ z ∧ z ≤ 299) ∧ e = .returned (.agg #[.int .i64 x, .int .i64 y, .int .i64 z]) ∧ Step g w w'
set_option maxRecDepth 100000 in
theorem l02Draw_c (g : Nat) (w : World) (h : Cur w g) : Calls Tryd.prog 43 #[.pointer (some ⟨g, 0, none⟩)] w (VecQ g w) := by
  have hlt := h.lt
  have HC := Lib.hid (Step.alloc (x := .cells ⟨[.int .i64 0, .int .i64 0, .int .i64 0]⟩ 41) h)
  clear h
  go_enter Tryd.func43, Tryd.ntmps43
  go_wp2_with fail
  refine (l01Below_c g 400 _ HC.out.1 (by omega) (by omega)).mono ?_
  rintro e w1 ⟨a, a1, a2, rfl, s1⟩
  go_wp2_with fail
  refine (l01Below_c g 400 _ s1.1 (by omega) (by omega)).mono ?_
  rintro e w2 ⟨b, b1, b2, rfl, s2⟩
  go_wp2_with fail
  refine (l01Below_c g 300 _ s2.1 (by omega) (by omega)).mono ?_
  rintro e w3 ⟨c, c1, c2, rfl, s3⟩
  have s := (s1.trans s2).trans s3
  have hb3 := s.2.block w.heap.size (by simp) (.inr (by omega))
  rw [heap_alloc_new] at hb3
  have hs2 := s.2.size
  simp at hs2
  have hl2 : w.heap.size < w3.heap.size := by omega
  rw [← putB_self hb3]
  have HS := Lib.hid (HC.out.trans s)
  clear s s1 s2 s3 hb3 HC
  go_wp2
  exact bodyPost_ret (v := .agg #[.int .i64 (a - 100), .int .i64 (b - 100), .int .i64 c]) (by simp [results, Tryd.results43, go_sem, hl2]) rfl ⟨_, _, _, ⟨by omega, by omega⟩, ⟨by omega, by omega⟩, ⟨by omega, by omega⟩, rfl, ⟨HS.out.1.chg Chg.putB (by omega), ⟨HS.out.2.os, HS.out.2.tape, HS.out.2.output, by rw [size_putB]; exact HS.out.2.size, fun k hk ho => by rw [heap_putB_other k (by omega)]; exact HS.out.2.block k hk ho⟩⟩⟩
def GivesVec (w : World) (e : Ending) (w' : World) : Prop := ∃ x y z : Int, (-100 ≤ x ∧ x ≤ 299) ∧ (-100 ≤ y ∧ y ≤ 299) ∧ (0 ≤ z ∧ z ≤ 299) ∧ e = .returned (.agg #[.int .i64 x, .int .i64 y, .int .i64 z]) ∧ Below w.heap.size w w'
set_option maxRecDepth 100000 in
theorem MakeVec_c (a : Option Addr) (n cap : Nat) (C : Nat → Nat) (w : World) (hb : BS w a n C) (hn : n ≤ 1048576) :
    Calls Tryd.prog 20 #[.slice a n cap, .int .i64 0] w (GivesVec w) := by
  have HB := Lib.hid (hb.below (Below.alloc (Below.refl _ _) (Nat.le_refl _) (.cells ⟨[.int .i64 0, .int .i64 0, .int .i64 0]⟩ 41)))
  clear hb
  go_enter Tryd.func20, Tryd.ntmps20
  go_wp2_with fail
  refine (l32New_c a n cap C 0 _ HB.out hn (by omega)).mono ?_
  rintro e w1 ⟨g, rfl, hg, hc, hbel⟩
  simp at hg
  go_wp2_with fail
  refine (l02Draw_c g w1 hc).mono ?_
  rintro e w2 ⟨x, y, z, hx, hy, hz, rfl, s1⟩
  have hb2 := hbel.block w.heap.size (by simp)
  rw [heap_alloc_new] at hb2
  have hs1 := hbel.size
  simp at hs1
  have hb3 := s1.2.block w.heap.size (by omega) (.inl (by omega))
  rw [hb2] at hb3
  have hs2 := s1.2.size
  have HE := Lib.hid (show Below w.heap.size w w2 from Below.chg ((Below.alloc (Below.refl _ _) (Nat.le_refl _) _).trans (hbel.mono (by simp))) s1.2 (by omega) (by omega))
  rw [← putB_self hb3]
  have hl2 : w.heap.size < w2.heap.size := by omega
  clear hb2 hb3 hbel s1 hc
  go_wp2
  exact bodyPost_ret (v := .agg #[.int .i64 x, .int .i64 y, .int .i64 z]) (by simp [results, Tryd.results20, go_sem, hl2]) rfl ⟨_, _, _, hx, hy, hz, rfl, HE.out.trans (Below.putB (Nat.le_refl _))⟩
end Go.Proofs.YtdkjiafdfenbkaaDoor
