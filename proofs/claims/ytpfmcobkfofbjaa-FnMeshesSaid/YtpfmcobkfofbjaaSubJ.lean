/- SubJ, with VertexPointT, VertexPointS, SubS, SubN ahead of it. -/
import Derived.Test.YtpfmcobkfofbjaaVertexPoint
import Derived.Test.YtpfmcobkfofbjaaSubG
import Derived.Test.YtpfmcobkfofbjaaApp3
import Derived.Deep.DeepCutAuto
import Derived.Test.YtpfmcobkfofbjaaSubMath
import Derived.Test.YtpfmcobkfofbjaaSubK
namespace Go.Proofs.Ytpfmcobkfofbjaa
open Go Go.RowKit
end Go.Proofs.Ytpfmcobkfofbjaa
namespace Go.Proofs.Ytpfmcobkfofbjaa
open Go Go.RowKit
/-- The boxes' contents. -/
structure VsF (P B : Nat) (u v : Value) (x0 x1 x2 : Int) (W : World) : Prop where
  m0 : W.cell? ⟨P, 0, none⟩ = some u
  m1 : W.cell? ⟨P, 1, none⟩ = some v
  r0 : W.cell? ⟨P + 1, 0, none⟩ = some (.int .i64 0)
  r1 : W.cell? ⟨P + 1, 1, none⟩ = some (.int .i64 0)
  r2 : W.cell? ⟨P + 1, 2, none⟩ = some (.int .i64 0)
  z0 : W.frozen? ⟨P + 1, 0, none⟩ = false
  z1 : W.frozen? ⟨P + 1, 1, none⟩ = false
  z2 : W.frozen? ⟨P + 1, 2, none⟩ = false
  b0 : W.cell? ⟨B, 0, none⟩ = some (.int .i64 x0)
  b1 : W.cell? ⟨B, 1, none⟩ = some (.int .i64 x1)
  b2 : W.cell? ⟨B, 2, none⟩ = some (.int .i64 x2)
theorem VsF.below {P B : Nat} {u v : Value} {x0 x1 x2 : Int} {w w' : World} (h : VsF P B u v x0 x1 x2 w) (hb : Below w.heap.size w w') : VsF P B u v x0 x1 x2 w' :=
  ⟨cell_below hb h.m0, cell_below hb h.m1, cell_below hb h.r0, cell_below hb h.r1, cell_below hb h.r2, frozen_below hb h.r0 h.z0, frozen_below hb h.r1 h.z1, frozen_below hb h.r2 h.z2, cell_below hb h.b0, cell_below hb h.b1, cell_below hb h.b2⟩
theorem sl_three {W : World} {g : Nat} {e : TypeId} {x y z : VecD} (h : W.heap[g]? = some (.cells #[.int .i64 x.f0, .int .i64 x.f1, .int .i64 x.f2, .int .i64 y.f0, .int .i64 y.f1, .int .i64 y.f2, .int .i64 z.f0, .int .i64 z.f1, .int .i64 z.f2] e (0, 0))) : Sl W (some ⟨g, 0, none⟩) 3 3 (VecD.at [x, y, z]) := fun _ =>
  ⟨g, 0, rfl, (Array.getElem?_eq_some_iff.1 h).1, fun i hi j hj => by rw [cell_of_row W g _ _ e (0, 0) h, ← at_three i hi j hj]; simp⟩
theorem own_one (W : World) (x : VecD) (base : Nat) (e : TypeId) (hb : base ≤ W.heap.size) : (W.alloc (.cells #[.int .i64 x.f0, .int .i64 x.f1, .int .i64 x.f2] e)).ownsRow base e 3 (.slice (some ⟨W.heap.size, 0, none⟩) 1 1) 1 [.int .i64 x.f0, .int .i64 x.f1, .int .i64 x.f2] :=
  ⟨rfl, .inr ⟨W.heap.size, 1, _, rfl, hb, heap_alloc_new _ _, Nat.le_refl _, by decide, rfl, rfl⟩⟩
theorem in64_of {x : Int} (h : -1099511627776000 ≤ x ∧ x ≤ 1099511627776000) : In64 x := ⟨by omega, by omega⟩
end Go.Proofs.Ytpfmcobkfofbjaa
namespace Go.Proofs.Ytpfmcobkfofbjaa
open Go Go.RowKit
theorem carried_true (e tm : TypeId) (T : Nat) : Carried (fun _ => True) e tm T := ⟨fun _ _ h _ => h, fun _ _ _ h _ _ _ => h, fun _ _ h _ _ => h⟩
end Go.Proofs.Ytpfmcobkfofbjaa
namespace Go.Proofs.Ytpfmcobkfofbjaa
open Go Go.RowKit
/-- What a refused subdivision gives. -/
def SubNo (w : World) (e : Ending) (w' : World) : Prop := e = .returned (.tuple #[.agg #[.slice none 0 0, .slice none 0 0], .bool false]) ∧ Below w.heap.size w w'
theorem subNo_ways {p : MeshD} (h : ¬ subOk p) : meshOkB p = false ∨ (meshOkB p = true ∧ 16 < p.nF) ∨ (meshOkB p = true ∧ p.nF ≤ 16 ∧ 80 < p.nV + (edgesD p).length + p.nF) := by
  cases hm : meshOkB p with
  | false => exact .inl rfl
  | true =>
    refine .inr ?_
    by_cases h1 : p.nF ≤ 16
    · refine .inr ⟨rfl, h1, ?_⟩
      have e : edgesD p = edgesL p.faces p.nF := by rw [edgesD, if_pos hm]
      rw [e]
      exact Decidable.byContradiction fun h2 => h ⟨meshOkB_true.1 hm, h1, by omega⟩
    · exact .inl ⟨rfl, by omega⟩
end Go.Proofs.Ytpfmcobkfofbjaa
namespace Go.Proofs.Ytpfmcobkfofbjaa
open Go Go.RowKit
set_option maxRecDepth 100000 in
set_option maxHeartbeats 8000000 in
theorem impl_Subdivide_no (v : Value) (p : MeshD) (w : World) (hr : MeshR w v p) (hs : MeshSz 1048576 p) (hok : ¬ subOk p) :
    Calls Try.prog 7 #[v] w (SubNo w) := by
  have hway := subNo_ways hok
  obtain ⟨hs1, hs2, _⟩ := id hs
  rcases hway with hB | ⟨hB, h16⟩ | ⟨hB, h16, h80⟩
  · have HVM := Lib.hid (fun W (h : Below w.heap.size w W) => hB ▸ impl_IsValidMesh_c _ p W (hr.below h) hs)
    obtain ⟨a, c, a', c', rfl, h1, h2⟩ := hr
    clear h1 h2 hok hs
    go_enter Try.func7, Try.ntmps7
    go_wp2_with (go_at_call 10; refine (HVM.out _ (by repeat (first | exact Below.refl _ _ | refine Below.drew ?_ | refine Below.alloc ?_ (by first | exact Nat.le_refl _ | (simp; done) | (simp; omega) | omega) _ | refine Below.more ?_ (by first | exact Nat.le_refl _ | (simp; done) | (simp; omega) | omega) _ _ | refine Below.setCell ?_ (by first | exact Nat.le_refl _ | (simp; done) | (simp; omega) | omega) _ | assumption))).mono ?_; rintro e wn ⟨rfl, hbn⟩; obtain ⟨X, nX, rfl⟩ := Below.ext hbn; clear hbn)
    exact bodyPost_ret (v := .tuple #[.agg #[.slice none 0 0, .slice none 0 0], .bool false]) (by simp [results, Try.results7, go_sem]) rfl ⟨rfl, (by repeat (first | exact Below.refl _ _ | refine Below.drew ?_ | refine Below.alloc ?_ (by first | exact Nat.le_refl _ | (simp; done) | (simp; omega) | omega) _ | refine Below.more ?_ (by first | exact Nat.le_refl _ | (simp; done) | (simp; omega) | omega) _ _ | refine Below.setCell ?_ (by first | exact Nat.le_refl _ | (simp; done) | (simp; omega) | omega) _ | assumption))⟩
  · have HVM := Lib.hid (fun W (h : Below w.heap.size w W) => hB ▸ impl_IsValidMesh_c _ p W (hr.below h) hs)
    have k16 : (16 : Int) < (p.nF : Int) := by omega
    obtain ⟨a, c, a', c', rfl, h1, h2⟩ := hr
    clear h1 h2 hok hs
    go_enter Try.func7, Try.ntmps7
    go_wp2_with (go_at_call 10; refine (HVM.out _ (by repeat (first | exact Below.refl _ _ | refine Below.drew ?_ | refine Below.alloc ?_ (by first | exact Nat.le_refl _ | (simp; done) | (simp; omega) | omega) _ | refine Below.more ?_ (by first | exact Nat.le_refl _ | (simp; done) | (simp; omega) | omega) _ _ | refine Below.setCell ?_ (by first | exact Nat.le_refl _ | (simp; done) | (simp; omega) | omega) _ | assumption))).mono ?_; rintro e wn ⟨rfl, hbn⟩; obtain ⟨X, nX, rfl⟩ := Below.ext hbn; clear hbn)
    exact bodyPost_ret (v := .tuple #[.agg #[.slice none 0 0, .slice none 0 0], .bool false]) (by simp [results, Try.results7, go_sem]) rfl ⟨rfl, (by repeat (first | exact Below.refl _ _ | refine Below.drew ?_ | refine Below.alloc ?_ (by first | exact Nat.le_refl _ | (simp; done) | (simp; omega) | omega) _ | refine Below.more ?_ (by first | exact Nat.le_refl _ | (simp; done) | (simp; omega) | omega) _ _ | refine Below.setCell ?_ (by first | exact Nat.le_refl _ | (simp; done) | (simp; omega) | omega) _ | assumption))⟩
  · have hm : meshOk p := meshOkB_true.1 hB
    have HVM := Lib.hid (fun W (h : Below w.heap.size w W) => hB ▸ impl_IsValidMesh_c _ p W (hr.below h) hs)
    have HTB := Lib.hid (fun W (h : Below w.heap.size w W) => edgeTable_c v p W (hr.below h) hs hm)
    have HAL := Lib.hid (fun W (h : Below w.heap.size w W) => impl_all_c v p W (hr.below h) hs hm)
    have hel : (edgesD p).length ≤ 4 * p.nF := by rw [edgesD, if_pos hB]; exact edgesL_len p.faces p.nF
    rw [show edgesD p = edgesL p.faces p.nF by rw [edgesD, if_pos hB]] at h80 hel
    have k16 : ¬ (16 : Int) < (p.nF : Int) := by omega
    obtain ⟨a, c, a', c', rfl, h1, h2⟩ := hr
    clear h1 h2 hok hs hB hm
    generalize edgesL p.faces p.nF = L at *
    generalize keysTo p.faces p.nF = KS at *
    have k80 : (80 : Int) < ((p.nV : Int) + (L.length : Int)) + (p.nF : Int) := by omega
    have k1 : IntKind.i64.wrap ((p.nV : Int) + (L.length : Int)) = (p.nV : Int) + (L.length : Int) := IntWalk.i64_in _ (by omega)
    have k2 : IntKind.i64.wrap (((p.nV : Int) + (L.length : Int)) + (p.nF : Int)) = ((p.nV : Int) + (L.length : Int)) + (p.nF : Int) := IntWalk.i64_in _ (by omega)
    go_enter Try.func7, Try.ntmps7
    go_upto_region 3 with (go_at_call 10; refine (HVM.out _ (by repeat (first | exact Below.refl _ _ | refine Below.drew ?_ | refine Below.alloc ?_ (by first | exact Nat.le_refl _ | (simp; done) | (simp; omega) | omega) _ | refine Below.more ?_ (by first | exact Nat.le_refl _ | (simp; done) | (simp; omega) | omega) _ _ | refine Below.setCell ?_ (by first | exact Nat.le_refl _ | (simp; done) | (simp; omega) | omega) _ | assumption))).mono ?_; rintro e W0 ⟨rfl, hb0⟩; have HB0 := Lib.hid (Below.trans (show Below w.heap.size w _ from (by repeat (first | exact Below.refl _ _ | refine Below.drew ?_ | refine Below.alloc ?_ (by first | exact Nat.le_refl _ | (simp; done) | (simp; omega) | omega) _ | refine Below.more ?_ (by first | exact Nat.le_refl _ | (simp; done) | (simp; omega) | omega) _ _ | refine Below.setCell ?_ (by first | exact Nat.le_refl _ | (simp; done) | (simp; omega) | omega) _ | assumption))) (hb0.mono (by simp; try omega))); have HM0 := Lib.hid (show MbS w.heap.size (.slice a p.nV c) (.slice a' p.nF c') W0 from MbS.below ⟨by simp [go_sem], by simp [go_sem], by exact heap_at_new (by simp)⟩ hb0); clear hb0; obtain ⟨p1, p2, p3⟩ := HM0.out)
    have hws := HB0.out.size
    have hp1 := World.block_lt_of_cell? _ _ p1
    have HTB2 := Lib.hid (show ∀ W, MbS w.heap.size (.slice a p.nV c) (.slice a' p.nF c') W → Below W0.heap.size W0 W → Calls Try.prog 20 #[.agg #[.slice a p.nV c, .slice a' p.nF c']] W fun e w2 => ∃ b F, e = .returned (.map (some b)) ∧ MbS w.heap.size (.slice a p.nV c) (.slice a' p.nF c') w2 ∧ Groups w2 W0.heap.size b (4 * p.nF) KS F (fun e => hitsTo p.faces e p.nF) ∧ Below W.heap.size W w2 ∧ Below W0.heap.size W0 w2 from fun W hq hb => (HTB.out W (HB0.out.trans (hb.mono HB0.out.size))).mono fun e w2 h => by
      obtain ⟨b, F, e1, hg, _, hb1⟩ := h
      exact ⟨b, F, e1, hq.below hb1, hg.low (by have := hb.size; omega), hb1, hb.trans (hb1.mono hb.size)⟩)
    have HAL2 := Lib.hid (show ∀ W, MbS w.heap.size (.slice a p.nV c) (.slice a' p.nF c') W → Below W0.heap.size W0 W → Calls Try.prog 21 #[.agg #[.slice a p.nV c, .slice a' p.nF c']] W fun e w2 => ∃ u, e = .returned u ∧ MbS w.heap.size (.slice a p.nV c) (.slice a' p.nF c') w2 ∧ w2.ownsRow W0.heap.size 55 2 u L.length (edgeVals L) ∧ Below W.heap.size W w2 ∧ Below W0.heap.size W0 w2 from fun W hq hb => (HAL.out W (HB0.out.trans (hb.mono HB0.out.size))).mono fun e w2 h => by
      obtain ⟨u, e1, ho, hb1⟩ := h
      exact ⟨u, e1, hq.below hb1, own_base ho (by have := hb.size; omega), hb1, hb.trans (hb1.mono hb.size)⟩)
    go_cut [4, 5] (fun s4 s5 wx => ∃ (b : Nat) (F : Int × Int → Value) (u : Value), s4 = .map (some b) ∧ s5 = u ∧ Groups wx W0.heap.size b (4 * p.nF) KS F (fun e => hitsTo p.faces e p.nF) ∧ wx.ownsRow W0.heap.size 55 2 u L.length (edgeVals L) ∧ Below W0.heap.size W0 wx)
    case first =>
      go_region_held3 (MbS w.heap.size (.slice a p.nV c) (.slice a' p.nF c')) (first | assumption | exact ⟨p1, p2, p3⟩ | exact HM0.out.below (by repeat (first | exact Below.refl _ _ | refine Below.drew ?_ | refine Below.alloc ?_ (by first | exact Nat.le_refl _ | (simp; done) | (simp; omega) | omega) _ | refine Below.more ?_ (by first | exact Nat.le_refl _ | (simp; done) | (simp; omega) | omega) _ _ | refine Below.setCell ?_ (by first | exact Nat.le_refl _ | (simp; done) | (simp; omega) | omega) _ | assumption))) (first
        | (go_at_call 20
           refine (HTB2.out _ ?_ ?_).mono ?_
           · (first | assumption | exact ⟨p1, p2, p3⟩ | exact HM0.out.below (by repeat (first | exact Below.refl _ _ | refine Below.drew ?_ | refine Below.alloc ?_ (by first | exact Nat.le_refl _ | (simp; done) | (simp; omega) | omega) _ | refine Below.more ?_ (by first | exact Nat.le_refl _ | (simp; done) | (simp; omega) | omega) _ _ | refine Below.setCell ?_ (by first | exact Nat.le_refl _ | (simp; done) | (simp; omega) | omega) _ | assumption)))
           · first | assumption | exact (by repeat (first | exact Below.refl _ _ | refine Below.drew ?_ | refine Below.alloc ?_ (by first | exact Nat.le_refl _ | (simp; done) | (simp; omega) | omega) _ | refine Below.more ?_ (by first | exact Nat.le_refl _ | (simp; done) | (simp; omega) | omega) _ _ | refine Below.setCell ?_ (by first | exact Nat.le_refl _ | (simp; done) | (simp; omega) | omega) _ | assumption))
           rintro e wa ⟨b, F, rfl, q, hg, hb1, qa⟩
           have HG := Lib.hid hg
           have qs := hb1.size
           (try simp at qs)
           obtain ⟨p1, p2, p3⟩ := q
           clear hg)
        | (go_at_call 21
           refine (HAL2.out _ ?_ ?_).mono ?_
           · (first | assumption | exact ⟨p1, p2, p3⟩ | exact HM0.out.below (by repeat (first | exact Below.refl _ _ | refine Below.drew ?_ | refine Below.alloc ?_ (by first | exact Nat.le_refl _ | (simp; done) | (simp; omega) | omega) _ | refine Below.more ?_ (by first | exact Nat.le_refl _ | (simp; done) | (simp; omega) | omega) _ _ | refine Below.setCell ?_ (by first | exact Nat.le_refl _ | (simp; done) | (simp; omega) | omega) _ | assumption)))
           · first | assumption | exact (by repeat (first | exact Below.refl _ _ | refine Below.drew ?_ | refine Below.alloc ?_ (by first | exact Nat.le_refl _ | (simp; done) | (simp; omega) | omega) _ | refine Below.more ?_ (by first | exact Nat.le_refl _ | (simp; done) | (simp; omega) | omega) _ _ | refine Below.setCell ?_ (by first | exact Nat.le_refl _ | (simp; done) | (simp; omega) | omega) _ | assumption))
           rintro e wb ⟨u, rfl, q, ho, hb2, qb⟩
           have HO := Lib.hid ho
           have qt := hb2.size
           (try simp at qt)
           obtain ⟨p1, p2, p3⟩ := q
           clear ho))
      all_goals (go_wp2_with fail; go_meet)
      all_goals first
        | exact ⟨_, _, _, rfl, rfl, HG.out.kept hb2, HO.out, qb⟩
        | exact ⟨_, _, _, rfl, rfl, HG.out, own_kept HO.out hb1, qa⟩
    case rest =>
      rename World => wx
      obtain ⟨b, F, u, rfl, rfl, hg, ho, hbx⟩ := hcut
      obtain ⟨ea, ec, rfl, hox⟩ := ow_of_ownsRow ho (flat_get (s := 2) (n := L.length) (C := edgeAt L) (fun _ _ => rfl))
      have HBX := Lib.hid hbx
      obtain ⟨n0, n1, n2⟩ := HM0.out.below hbx
      have hsx := hbx.size
      have hwx := World.block_lt_of_cell? _ _ n0
      have r0 := cell_at (j := 0) n2 rfl
      have r1 := cell_at (j := 1) n2 rfl
      have z0 := frozen_at (j := 0) n2
      have z1 := frozen_at (j := 1) n2
      clear hg ho hox hbx p1 p2 p3
      go_wp2
      exact bodyPost_ret (v := .tuple #[.agg #[.slice none 0 0, .slice none 0 0], .bool false]) (by simp [results, Try.results7, go_sem, r0, r1]) rfl ⟨rfl, Below.trans (HB0.out.trans (HBX.out.mono hws)) (by repeat (first | exact Below.refl _ _ | refine Below.drew ?_ | refine Below.alloc ?_ (by first | exact Nat.le_refl _ | (simp; done) | (simp; omega) | omega) _ | refine Below.more ?_ (by first | exact Nat.le_refl _ | (simp; done) | (simp; omega) | omega) _ _ | refine Below.setCell ?_ (by first | exact Nat.le_refl _ | (simp; done) | (simp; omega) | omega) _ | assumption))⟩
end Go.Proofs.Ytpfmcobkfofbjaa
