/- The law of the hull: a subdivided mesh stays within its mesh's bounds. -/
import Derived.Test.YtpfmcobkfofbjaaHullW
import Derived.Test.YtpfmcobkfofbjaaSubX
import Derived.Test.YtpfmcobkfofbjaaOpen
namespace Go.Proofs.Ytpfmcobkfofbjaa
open Go Go.RowKit
theorem subD_of {p : MeshD} (h : subOk p) : subD p = ⟨subVs p, subFs p, p.nV + (edgesL p.faces p.nF).length + p.nF, 4 * p.nF, subVs_len p, subFs_len p⟩ := by rw [subD, if_pos h]
theorem bound_c {p : MeshD} (hd : DrawnT p) (va : Option Addr) (vc : Nat) (h1 : p.nV ≤ vc) (h2 : vc ≤ 9223372036854775807) : ∃ x0 y0 z0 x1 y1 z1 : Int,
    (∀ w, Sl w va 3 p.nV (VecD.at p.verts) → Calls Try.prog 6 #[.slice va p.nV vc] w fun e w' => e = .returned (.tuple #[boxV x0 y0 z0 x1 y1 z1, .bool true]) ∧ Below w.heap.size w w') ∧ ∀ u ∈ subVs p, InBox x0 y0 z0 x1 y1 z1 u := by
  obtain ⟨E, _, _, _, _, _, h3, _⟩ := drawn_T hd
  obtain ⟨m, hm⟩ : ∃ m, p.nV = m + 1 := ⟨p.nV - 1, by omega⟩
  exact ⟨_, _, _, _, _, _, fun w hr => by rw [hm] at hr h1 ⊢; exact impl_BoundPoints va vc m _ w h1 h2 hr, fun u hu => drawn_hull hd hm hu⟩
/-- What the law reads of the finer mesh. -/
theorem fine_of {p : MeshD} (hd : DrawnT p) {lo hi : Nat} {w : World} {s : Value} (h : MeshX w lo hi s (subD p) none) : ∃ (N M : Nat) (V : Nat → VecD) (sa sb : Option Addr) (sc sd : Nat), s = .agg #[.slice sa N sc, .slice sb M sd] ∧ 1 ≤ N ∧ N ≤ 80 ∧ Sl w sa 3 N (fun i => (V i).cells) ∧ ∀ i, i < N → V i ∈ subVs p := by
  obtain ⟨hok, _⟩ := drawn_ok hd
  obtain ⟨a, c, a', c', e, h1, _⟩ := h.r
  obtain ⟨_, _, _, _, _, _, h3, _⟩ := drawn_T hd
  have h80 := hok.2.2
  rw [subD_of hok] at e h1
  refine ⟨_, _, fun i => (subVs p).getD i default, a, a', c, c', e, by dsimp only; omega, by dsimp only; omega, h1, fun i hi => ?_⟩
  have hl := subVs_len p
  dsimp only at hi ⊢
  rw [List.getD_eq_getElem?_getD, List.getElem?_eq_getElem (by omega)]
  exact List.getElem_mem _
set_option maxRecDepth 100000 in
set_option maxHeartbeats 8000000 in
theorem law_Hull {H : Type} {enc : TypeId × Value → H} {W : World} {base : Nat} {v0 : Value} {d0 : DataW H} {p0 : List MemPlace}
    (k0 : Value.okWide Try.prog W .any base 22 v0) (h0 : DataW.Trod enc Try.prog W 0 (fun _ => true) true 22 v0 d0 p0) :
    Calls Try.prog 3 #[v0] W fun e W' => e = .returned (.bool true) ∧ Below W.heap.size W W' := by
  obtain ⟨a, cap, C, n, rfl, HB, hn⟩ := open_bytes k0 h0
  clear k0 h0
  by_cases hbig : n ≤ 1048576
  · have hb1 : ¬ (n : Int) > 1048576 := by omega
    go_enter Try.func3, Try.ntmps3
    go_wp2_with fail
    refine (MakeMesh_c a n cap C _ HB.out hbig).mono ?_
    rintro e w1 ⟨v, p, rfl, hm, hd, ⟨va, vc, fa, fc, rfl, hc1, hc2⟩, B1⟩
    obtain ⟨x0, y0, z0, x1, y1, z1, hbp, hin⟩ := bound_c hd va vc hc1 hc2
    have HIN := Lib.hid hin
    have HBP := Lib.hid (fun W (hb : Below w1.heap.size w1 W) => hbp W (by
      obtain ⟨_, _, _, _, e, h1, _⟩ := hm
      cases e
      exact h1.below hb))
    have HSD := Lib.hid (fun W (hb : Below w1.heap.size w1 W) => impl_Subdivide_g _ p W (hm.below hb) (drawn_sz hd))
    have HD := Lib.hid hd
    have HB1 := Lib.hid B1
    have hs1 := B1.size
    clear hin hbp hm hd B1 hc1 hc2
    have hsb : subB p = true := by simp [subB, (drawn_ok HD.out).1]
    rw [hsb] at HSD
    have HFI := Lib.hid (fun lo hi w s h => fine_of HD.out (lo := lo) (hi := hi) (w := w) (s := s) h)
    clear hsb
    generalize p.nV = nV at *
    generalize p.nF = nF at *
    go_wp2_with fail
    refine (HBP.out _ (by repeat (first | exact Below.refl _ _ | refine Below.drew ?_ | refine Below.alloc ?_ (by first | exact Nat.le_refl _ | (simp; done) | (simp; omega) | omega) _ | refine Below.more ?_ (by first | exact Nat.le_refl _ | (simp; done) | (simp; omega) | omega) _ _ | refine Below.setCell ?_ (by first | exact Nat.le_refl _ | (simp; done) | (simp; omega) | omega) _ | assumption))).mono ?_
    rintro e w2 ⟨rfl, B2⟩
    have h3 := heap_keep (heap_alloc_new w1 _) B2
    have HB2 := Lib.hid ((show Below w1.heap.size w1 _ from (by repeat (first | exact Below.refl _ _ | refine Below.drew ?_ | refine Below.alloc ?_ (by first | exact Nat.le_refl _ | (simp; done) | (simp; omega) | omega) _ | refine Below.more ?_ (by first | exact Nat.le_refl _ | (simp; done) | (simp; omega) | omega) _ _ | refine Below.setCell ?_ (by first | exact Nat.le_refl _ | (simp; done) | (simp; omega) | omega) _ | assumption))).trans (B2.mono (by simp)))
    have hs2 := B2.size
    simp at hs2
    have t0 := cell_at (j := 0) h3 rfl
    have t1 := cell_at (j := 1) h3 rfl
    have hs2' : w1.heap.size < w2.heap.size := by omega
    clear h3 B2
    go_wp2_with fail
    refine (HSD.out _ (HB2.out.trans (by repeat (first | exact Below.refl _ _ | refine Below.drew ?_ | refine Below.alloc ?_ (by first | exact Nat.le_refl _ | (simp; done) | (simp; omega) | omega) _ | refine Below.more ?_ (by first | exact Nat.le_refl _ | (simp; done) | (simp; omega) | omega) _ _ | refine Below.setCell ?_ (by first | exact Nat.le_refl _ | (simp; done) | (simp; omega) | omega) _ | assumption)))).mono ?_
    rintro e w3 ⟨s, rfl, hx, B3⟩
    obtain ⟨N, M, V, sa, sb, sc, sd, rfl, hN1, hN80, hrow, hvs⟩ := HFI.out _ _ _ _ hx
    have h4 := heap_keep (heap_alloc_new w2 _) B3
    have HB3 := Lib.hid ((HB1.out.trans (HB2.out.mono hs1)).trans ((show Below w2.heap.size w2 _ from (by repeat (first | exact Below.refl _ _ | refine Below.drew ?_ | refine Below.alloc ?_ (by first | exact Nat.le_refl _ | (simp; done) | (simp; omega) | omega) _ | refine Below.more ?_ (by first | exact Nat.le_refl _ | (simp; done) | (simp; omega) | omega) _ _ | refine Below.setCell ?_ (by first | exact Nat.le_refl _ | (simp; done) | (simp; omega) | omega) _ | assumption))).trans (B3.mono (by simp)) |>.mono (by omega)))
    have hs3 := B3.size
    simp at hs3
    have hs3' : w2.heap.size < w3.heap.size := by omega
    have HVS := Lib.hid (fun i hi => HIN.out _ (hvs i hi))
    obtain ⟨b, o, rfl, hb, hcs⟩ := hrow (by omega)
    have HCS := Lib.hid hcs
    have H4 := Lib.hid h4
    have HN1 := Lib.hid hN1
    have HN80 := Lib.hid hN80
    clear h4 B3 hx hvs hrow hcs hN1 hN80 HFI HSD HBP t0 t1 HB1 HB2 hs3 hs2 hs2' hs1
    go_wp2
    go_loopw [31] (fun i wr => ∃ k : Nat, k ≤ N ∧ i = .int .i64 k ∧ Below w3.heap.size w3 wr ∧ wr.heap[w3.heap.size]? = some (.cells #[.slice (some ⟨b, o, none⟩) N sc, .slice sb M sd] 26 (0, 0))) (fun i _ => N - (intOf i).toNat)
    case atStart => exact ⟨0, by omega, rfl, (by repeat (first | exact Below.refl _ _ | refine Below.drew ?_ | refine Below.alloc ?_ (by first | exact Nat.le_refl _ | (simp; done) | (simp; omega) | omega) _ | refine Below.more ?_ (by first | exact Nat.le_refl _ | (simp; done) | (simp; omega) | omega) _ _ | refine Below.setCell ?_ (by first | exact Nat.le_refl _ | (simp; done) | (simp; omega) | omega) _ | assumption)), heap_at_new (by simp)⟩
    case round =>
      obtain ⟨k, hk, rfl, hbr, hbx⟩ := hrel
      have HBR := Lib.hid hbr
      have HBX := Lib.hid hbx
      have hwr := hbr.size
      have hw3 := (Array.getElem?_eq_some_iff.1 hbx).1
      clear hbr hbx
      by_cases hlt : k < N
      · have hk1 : (k : Int) < (N : Int) := by omega
        have h80 := HN80.out
        have hkw : IntKind.i64.wrap ((k : Int) + 1) = (k : Int) + 1 := IntWalk.i64_in _ (by omega)
        have hbox := heap_keep H4.out HBR.out
        have q0 := cell_at (j := 0) hbox rfl
        have q1 := cell_at (j := 1) hbox rfl
        have q2 := cell_at (j := 2) hbox rfl
        have q3 := cell_at (j := 3) hbox rfl
        have q4 := cell_at (j := 4) hbox rfl
        have q5 := cell_at (j := 5) hbox rfl
        have hl2 := (Array.getElem?_eq_some_iff.1 hbox).1
        have r0 : wr.cell? ⟨b, o + k * 3, none⟩ = some (.int .i64 (V k).f0) := cell_below HBR.out (HCS.out k hlt 0 (by omega))
        have r1 : wr.cell? ⟨b, o + k * 3 + 1, none⟩ = some (.int .i64 (V k).f1) := cell_below HBR.out (HCS.out k hlt 1 (by omega))
        have r2 : wr.cell? ⟨b, o + k * 3 + 2, none⟩ = some (.int .i64 (V k).f2) := cell_below HBR.out (HCS.out k hlt 2 (by omega))
        have hl3 := World.block_lt_of_cell? _ _ r0
        clear hbox
        have HV := Lib.hid (HVS.out k hlt)
        go_wp2_with fail
        refine (impl_BoxContains x0 y0 z0 x1 y1 z1 (V k).f0 (V k).f1 (V k).f2 HV.out _).mono ?_
        rintro e w5 ⟨rfl, B5⟩
        have HB5 := Lib.hid ((show Below wr.heap.size wr _ from (by repeat (first | exact Below.refl _ _ | refine Below.drew ?_ | refine Below.alloc ?_ (by first | exact Nat.le_refl _ | (simp; done) | (simp; omega) | omega) _ | refine Below.more ?_ (by first | exact Nat.le_refl _ | (simp; done) | (simp; omega) | omega) _ _ | refine Below.setCell ?_ (by first | exact Nat.le_refl _ | (simp; done) | (simp; omega) | omega) _ | assumption))).trans (B5.mono (by simp)))
        clear B5
        go_wp2
        exact ⟨⟨k + 1, by omega, by first | rfl | go_num, HBR.out.trans (HB5.out.mono hwr), heap_keep HBX.out HB5.out⟩, by simp only [intOf]; omega⟩
      · obtain rfl : k = N := by omega
        have hk1 : ¬ (k : Int) < (k : Int) := by omega
        have h1 := HN1.out
        have hk2 : (k : Int) > 0 := by omega
        have hk3 : (0 : Int) < (k : Int) := by omega
        have hk4 : 0 < k := by omega
        have q0 := cell_at (j := 0) HBX.out rfl
        go_wp2
        go_ret
        exact ⟨rfl, HB3.out.trans (HBR.out.mono HB3.out.size)⟩
  · have hb1 : (n : Int) > 1048576 := by omega
    go_enter Try.func3, Try.ntmps3
    go_wp2
    go_ret
    exact ⟨rfl, (by repeat (first | exact Below.refl _ _ | refine Below.drew ?_ | refine Below.alloc ?_ (by first | exact Nat.le_refl _ | (simp; done) | (simp; omega) | omega) _ | refine Below.more ?_ (by first | exact Nat.le_refl _ | (simp; done) | (simp; omega) | omega) _ _ | refine Below.setCell ?_ (by first | exact Nat.le_refl _ | (simp; done) | (simp; omega) | omega) _ | assumption))⟩
end Go.Proofs.Ytpfmcobkfofbjaa
