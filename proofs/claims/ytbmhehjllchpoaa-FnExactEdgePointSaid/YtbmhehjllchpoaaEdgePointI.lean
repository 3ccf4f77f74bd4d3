/- Contracts of EdgePoint. -/
import Derived.Test.YtbmhehjllchpoaaEdgePoint
namespace Go.Proofs.Ytbmhehjllchpoaa
open Go Go.RowKit
theorem frozen_below {w w' : World} {b o : Nat} {v : Value} (h : Below w.heap.size w w') (c : w.cell? ⟨b, o, none⟩ = some v) (f : w.frozen? ⟨b, o, none⟩ = false) : w'.frozen? ⟨b, o, none⟩ = false :=
  (World.frozen?_of_block (h.block b (World.block_lt_of_cell? _ _ c))).trans f
theorem onEdge_und {p : MeshD} {a b : Int} {on : List Int} (h : OnEdge p a b on) : OnEdge p (und (a, b)).1 (und (a, b)).2 on := by
  have h1 := h.a0
  have h2 := h.b0
  refine ⟨h.ok, ?_, ?_, h.on⟩ <;> simp only [und] <;> omega
theorem epV_und (p : MeshD) (a b : Int) (on : List Int) : epV p (und (a, b)).1 (und (a, b)).2 on = epV p a b on := by
  by_cases h : a ≤ b
  · have e : und (a, b) = (a, b) := by simp only [und, Prod.mk.injEq]; omega
    rw [e]
  · have e : und (a, b) = (b, a) := by simp only [und, Prod.mk.injEq]; omega
    rw [e]
    exact epV_swap p b a on
set_option maxRecDepth 100000 in
set_option maxHeartbeats 2000000 in
theorem impl_EdgePoint_c (v : Value) (p : MeshD) (x y : Int) (hx : (Lit.int .i64 x).wf = true) (hy : (Lit.int .i64 y).wf = true) (w : World) (hr : MeshR w v p) (hs : MeshSz 1048576 p) :
    Calls Try.prog 38 #[v, .int .i64 x, .int .i64 y] w fun e w' => e = .returned (epR p x y) ∧ Below w.heap.size w w' := by
  have HEF := Lib.hid (fun W (h : Below w.heap.size w W) => impl_EdgeFaces_c v p x y hx hy W (hr.below h) hs)
  have HEP := Lib.hid (fun (fa : Option Addr) (fc : Nat) (h0 : ¬ (efacesD p x y).length = 0) W (h : Below w.heap.size w W) (hf : Sl W fa 1 (efacesD p x y).length (intAt (efacesD p x y))) => (epV_und p x y (efacesD p x y)) ▸ impl_edgePoint_c v p (und (x, y)).1 (und (x, y)).2 fa fc (efacesD p x y) W (hr.below h) hs (onEdge_und (onEdge_of h0)) hf)
  have HUN := Lib.hid (und_c x y)
  obtain ⟨a, c, a', c', rfl, _, _⟩ := hr
  generalize hu : und (x, y) = u at *
  clear hu hs hx hy
  obtain ⟨ux, uy⟩ := u
  dsimp only at HEP HUN
  by_cases h0 : (efacesD p x y).length = 0
  · have HR := Lib.hid (show epR p x y = vecV 0 0 0 by rw [epR, if_pos h0])
    rw [HR.out]
    clear HR HEP
    rw [h0] at HEF
    clear h0
    generalize intAt (efacesD p x y) = C at *
    go_enter Try.func38, Try.ntmps38
    go_wp2_with (first | (go_at_call 70; refine (HUN.out _).mono ?_; rintro e wn ⟨rfl, hbn⟩; obtain ⟨X, nX, rfl⟩ := Below.ext hbn; clear hbn) | (go_at_call 29; refine (HEF.out _ (by repeat (first | exact Below.refl _ _ | refine Below.drew ?_ | refine Below.alloc ?_ (by first | exact Nat.le_refl _ | (simp; done) | (simp; omega) | omega) _ | refine Below.more ?_ (by first | exact Nat.le_refl _ | (simp; done) | (simp; omega) | omega) _ _ | refine Below.setCell ?_ (by first | exact Nat.le_refl _ | (simp; done) | (simp; omega) | omega) _ | assumption))).mono ?_; rintro e wq ⟨fa, fc, rfl, _, hbq⟩; obtain ⟨X2, nX2, rfl⟩ := Below.ext hbq; clear hbq))
    exact bodyPost_ret (v := vecV 0 0 0) (by simp [results, Try.results38, go_sem]) rfl ⟨rfl, (by repeat (first | exact Below.refl _ _ | refine Below.drew ?_ | refine Below.alloc ?_ (by first | exact Nat.le_refl _ | (simp; done) | (simp; omega) | omega) _ | refine Below.more ?_ (by first | exact Nat.le_refl _ | (simp; done) | (simp; omega) | omega) _ _ | refine Below.setCell ?_ (by first | exact Nat.le_refl _ | (simp; done) | (simp; omega) | omega) _ | assumption))⟩
  · have h1 : ((efacesD p x y).length : Int) ≠ 0 := by omega
    have hb0 : (((efacesD p x y).length : Int) == 0) = false := by simpa using h1
    have HR := Lib.hid (show epR p x y = epV p x y (efacesD p x y) by rw [epR, if_neg h0])
    rw [HR.out]
    have HEP2 := Lib.hid (fun fa fc => HEP.out fa fc h0)
    obtain ⟨R0, R1, R2, hRV⟩ : ∃ A B C, epV p x y (efacesD p x y) = vecV A B C := ⟨_, _, _, rfl⟩
    rw [hRV] at HEP2 ⊢
    clear HR HEP hRV h0 h1
    generalize efacesD p x y = on at *
    generalize p.nV = nv at *
    generalize p.nF = nf at *
    go_enter Try.func38, Try.ntmps38
    go_wp2_with (first | (go_at_call 70; refine (HUN.out _).mono ?_; rintro e wn ⟨rfl, hbn⟩; obtain ⟨X, nX, rfl⟩ := Below.ext hbn; clear hbn) | (go_at_call 29; refine (HEF.out _ (by repeat (first | exact Below.refl _ _ | refine Below.drew ?_ | refine Below.alloc ?_ (by first | exact Nat.le_refl _ | (simp; done) | (simp; omega) | omega) _ | refine Below.more ?_ (by first | exact Nat.le_refl _ | (simp; done) | (simp; omega) | omega) _ _ | refine Below.setCell ?_ (by first | exact Nat.le_refl _ | (simp; done) | (simp; omega) | omega) _ | assumption))).mono ?_; rintro e wq ⟨fa, fc, rfl, ho, hbq⟩; have HO := Lib.hid ho; have k0 := cell_below hbq (show World.cell? _ ⟨w.heap.size, 0, none⟩ = some (.slice a nv c) by simp [go_sem]); have k1 := cell_below hbq (show World.cell? _ ⟨w.heap.size, 1, none⟩ = some (.slice a' nf c') by simp [go_sem]); have j0 := cell_below hbq (show World.cell? _ ⟨w.heap.size + 1 + 1 + X.size, 0, none⟩ = some (.int .i64 ux) by simp [go_sem]); have j1 := cell_below hbq (show World.cell? _ ⟨w.heap.size + 1 + 1 + X.size, 1, none⟩ = some (.int .i64 uy) by simp [go_sem]); have s0 := cell_below hbq (show World.cell? _ ⟨w.heap.size + 1, 0, none⟩ = some (.int .i64 0) by simp [go_sem]); have s1 := cell_below hbq (show World.cell? _ ⟨w.heap.size + 1, 1, none⟩ = some (.int .i64 0) by simp [go_sem]); have s2 := cell_below hbq (show World.cell? _ ⟨w.heap.size + 1, 2, none⟩ = some (.int .i64 0) by simp [go_sem]); have t0 := frozen_below hbq (show World.cell? _ ⟨w.heap.size + 1, 0, none⟩ = some (.int .i64 0) by simp [go_sem]) (by simp [go_sem]); have t1 := frozen_below hbq (show World.cell? _ ⟨w.heap.size + 1, 1, none⟩ = some (.int .i64 0) by simp [go_sem]) (by simp [go_sem]); have t2 := frozen_below hbq (show World.cell? _ ⟨w.heap.size + 1, 2, none⟩ = some (.int .i64 0) by simp [go_sem]) (by simp [go_sem]); have HBQ := Lib.hid (Below.trans (show Below w.heap.size w _ from (by repeat (first | exact Below.refl _ _ | refine Below.drew ?_ | refine Below.alloc ?_ (by first | exact Nat.le_refl _ | (simp; done) | (simp; omega) | omega) _ | refine Below.more ?_ (by first | exact Nat.le_refl _ | (simp; done) | (simp; omega) | omega) _ _ | refine Below.setCell ?_ (by first | exact Nat.le_refl _ | (simp; done) | (simp; omega) | omega) _ | assumption))) (hbq.mono (by simp; try omega))); have y1 := World.block_lt_of_cell? _ _ s0; clear ho hbq) | (go_at_call 72; refine (HEP2.out _ _ _ HBQ.out HO.out.sl).mono ?_; rintro e wn ⟨rfl, hbn⟩; obtain ⟨X, nX, rfl⟩ := Below.ext hbn; clear hbn))
    exact bodyPost_ret (v := vecV R0 R1 R2) (by simp [results, Try.results38, go_sem, s0, s1, s2, t0, t1, t2, y1]) rfl ⟨rfl, Below.trans HBQ.out (by repeat (first | exact Below.refl _ _ | refine Below.drew ?_ | refine Below.alloc ?_ (by first | exact Nat.le_refl _ | (simp; done) | (simp; omega) | omega) _ | refine Below.more ?_ (by first | exact Nat.le_refl _ | (simp; done) | (simp; omega) | omega) _ _ | refine Below.setCell ?_ (by first | exact Nat.le_refl _ | (simp; done) | (simp; omega) | omega) _ | assumption))⟩
end Go.Proofs.Ytbmhehjllchpoaa
