/- A mesh is made of bytes. -/
import Derived.Test.YtpfmcobkfofbjaaDrawStrip
namespace Go.Proofs.Ytpfmcobkfofbjaa
open Go Go.RowKit
/-- A result's box at b is filled. -/
theorem mesh_boxed {w : World} {b lo hi : Nat} {vs fs z0 z1 : Value} {p : MeshD} (hm : MeshX w lo hi (.agg #[vs, fs]) p none) (_hb : w.heap[b]? = some (.cells #[z0, z1] 26 (0, 0))) (hlo : b < lo) :
    MeshX ((w.setCell ⟨b, 0, none⟩ vs).setCell ⟨b, 1, none⟩ fs) lo hi (.agg #[vs, fs]) p none ∧ Chg b (b + 1) w ((w.setCell ⟨b, 0, none⟩ vs).setCell ⟨b, 1, none⟩ fs) := by
  have hc := (chg_set1 w b 0 vs).trans (chg_set1 (w.setCell ⟨b, 0, none⟩ vs) b 1 fs)
  exact ⟨hm.chg hc (.inr (by omega)), hc⟩
set_option maxRecDepth 100000 in
theorem l06Draw_c (g : Nat) (w : World) (h : Cur w g) : Calls Try.prog 15 #[.pointer (some ⟨g, 0, none⟩)] w (MeshQ g w) := by
  have hlt := h.lt
  have HC := Lib.hid (h.below (Below.alloc (Below.refl _ _) (Nat.le_refl _) (.cells #[.slice none 0 0, .slice none 0 0] 26)))
  have HK := Lib.hid (show Chg g (g + 1) w (w.alloc (.cells #[.slice none 0 0, .slice none 0 0] 26)) from Chg.of_below (Below.alloc (Below.refl _ _) (Nat.le_refl _) _))
  have HB : Hid ((w.alloc (.cells #[.slice none 0 0, .slice none 0 0] 26)).heap[w.heap.size]? = _) := Lib.hid (heap_alloc_new _ _)
  clear h
  go_enter Try.func15, Try.ntmps15
  go_wp2_with fail
  refine (l01Once_c g 2 _ HC.out (by omega) (by omega)).mono ?_
  rintro e w1 ⟨o, rfl, s1⟩
  have HS := Lib.hid s1
  have HB1 := Lib.hid ((s1.2.block w.heap.size (by simp) (.inr (by omega))).trans HB.out)
  have HK1 := Lib.hid (HK.out.trans s1.2)
  have hz := s1.2.size
  simp at hz
  clear s1
  cases o
  all_goals go_wp2_with fail
  · refine (l06Strip_c g w1 HS.out.1).mono ?_
    rintro e w2 ⟨v, p, rfl, hm, hd, hcp, hk⟩
    obtain ⟨a, c, a', c', rfl, hcp⟩ := hcp
    have hb2 := (hk.block w.heap.size (by omega) (.inr (by omega))).trans HB1.out
    have HM := Lib.hid (mesh_boxed hm hb2 (by omega))
    have HK2 := Lib.hid (HK1.out.trans hk)
    have HD := Lib.hid hd
    obtain ⟨e0, e1⟩ := two_cells hb2 (.slice a p.nV c) (.slice a' p.nF c')
    have c0 := cell_at (j := 0) hb2 rfl
    have c1 := cell_at (j := 1) hb2 rfl
    have c3 := frozen_at (j := 0) hb2
    have c4 := frozen_at (j := 1) hb2
    have hz2 := hk.size
    have hz3 : w.heap.size < w2.heap.size := by omega
    clear hm hd hk
    go_wp2
    exact bodyPost_ret (v := .agg #[.slice a p.nV c, .slice a' p.nF c']) (by simp [results, Try.results15, go_sem, e0, e1]) rfl ⟨_, p, rfl, HM.out.1.wide (by omega) HM.out.2.size, HD.out, ⟨_, _, _, _, rfl, hcp⟩, ⟨HM.out.2.os.trans HK2.out.os, HM.out.2.tape.trans HK2.out.tape, HM.out.2.output.trans HK2.out.output, Nat.le_trans HK2.out.size HM.out.2.size, fun j hj ho => (HM.out.2.block j (by omega) (by omega)).trans (HK2.out.block j hj ho)⟩⟩
  · refine (l06Cube_c g w1 HS.out.1).mono ?_
    rintro e w2 ⟨v, p, rfl, hm, hd, hcp, hk⟩
    obtain ⟨a, c, a', c', rfl, hcp⟩ := hcp
    have hb2 := (hk.block w.heap.size (by omega) (.inr (by omega))).trans HB1.out
    have HM := Lib.hid (mesh_boxed hm hb2 (by omega))
    have HK2 := Lib.hid (HK1.out.trans hk)
    have HD := Lib.hid hd
    obtain ⟨e0, e1⟩ := two_cells hb2 (.slice a p.nV c) (.slice a' p.nF c')
    have c0 := cell_at (j := 0) hb2 rfl
    have c1 := cell_at (j := 1) hb2 rfl
    have c3 := frozen_at (j := 0) hb2
    have c4 := frozen_at (j := 1) hb2
    have hz2 := hk.size
    have hz3 : w.heap.size < w2.heap.size := by omega
    clear hm hd hk
    go_wp2
    exact bodyPost_ret (v := .agg #[.slice a p.nV c, .slice a' p.nF c']) (by simp [results, Try.results15, go_sem, e0, e1]) rfl ⟨_, p, rfl, HM.out.1.wide (by omega) HM.out.2.size, HD.out, ⟨_, _, _, _, rfl, hcp⟩, ⟨HM.out.2.os.trans HK2.out.os, HM.out.2.tape.trans HK2.out.tape, HM.out.2.output.trans HK2.out.output, Nat.le_trans HK2.out.size HM.out.2.size, fun j hj ho => (HM.out.2.block j (by omega) (by omega)).trans (HK2.out.block j hj ho)⟩⟩
def GivesMesh (w : World) (e : Ending) (w' : World) : Prop := ∃ v p, e = .returned v ∧ MeshR w' v p ∧ DrawnT p ∧ CapOk v p ∧ Below w.heap.size w w'
set_option maxRecDepth 100000 in
theorem MakeMesh_c (a : Option Addr) (n cap : Nat) (C : Nat → Nat) (w : World) (hb : BS w a n C) (hn : n ≤ 1048576) :
    Calls Try.prog 5 #[.slice a n cap] w (GivesMesh w) := by
  have HB := Lib.hid (hb.below (Below.alloc (Below.refl _ _) (Nat.le_refl _) (.cells #[.slice none 0 0, .slice none 0 0] 26)))
  clear hb
  go_enter Try.func5, Try.ntmps5
  go_wp2_with fail
  refine (l01New_c a n cap C _ HB.out hn).mono ?_
  rintro e w1 ⟨g, rfl, hg, hc, hbel⟩
  simp at hg
  have HC := Lib.hid hc
  have HB1 := Lib.hid (heap_keep (heap_alloc_new w (.cells #[.slice none 0 0, .slice none 0 0] 26)) hbel)
  have HK := Lib.hid ((Below.alloc (Below.refl w.heap.size w) (Nat.le_refl _) (.cells #[.slice none 0 0, .slice none 0 0] 26)).trans (hbel.mono (by simp)))
  have hz := hbel.size
  simp at hz
  clear hc hbel
  go_wp2_with fail
  refine (l06Draw_c g w1 HC.out).mono ?_
  rintro e w2 ⟨v, p, rfl, hm, hd, hcp, hk⟩
  obtain ⟨a, c, a', c', rfl, hcp⟩ := hcp
  have hb2 := (hk.block w.heap.size (by omega) (.inl (by omega))).trans HB1.out
  have HM := Lib.hid (mesh_boxed hm hb2 (by omega))
  have HK2 := Lib.hid (show Below w.heap.size w w2 from Below.chg HK.out hk (by omega) (by omega))
  have HD := Lib.hid hd
  obtain ⟨e0, e1⟩ := two_cells hb2 (.slice a p.nV c) (.slice a' p.nF c')
  have c0 := cell_at (j := 0) hb2 rfl
  have c1 := cell_at (j := 1) hb2 rfl
  have c3 := frozen_at (j := 0) hb2
  have c4 := frozen_at (j := 1) hb2
  have hz2 := hk.size
  have hz3 : w.heap.size < w2.heap.size := by omega
  clear hm hd hk
  go_wp2
  exact bodyPost_ret (v := .agg #[.slice a p.nV c, .slice a' p.nF c']) (by simp [results, Try.results5, go_sem, e0, e1]) rfl ⟨_, p, rfl, HM.out.1.r, HD.out, ⟨_, _, _, _, rfl, hcp⟩, (HK2.out.setCell (Nat.le_refl _) _).setCell (Nat.le_refl _) _⟩
end Go.Proofs.Ytpfmcobkfofbjaa
