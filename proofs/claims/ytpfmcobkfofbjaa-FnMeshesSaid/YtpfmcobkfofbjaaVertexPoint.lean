/- Contracts of impl.vertexPoint and VertexPoint. -/
import Derived.Test.YtpfmcobkfofbjaaVtx
import Derived.Test.YtpfmcobkfofbjaaEdgePointI
import Derived.Deep.DeepCutAuto
namespace Go.Proofs.Ytpfmcobkfofbjaa
open Go Go.RowKit
@[reducible] def VtS (B : Nat) (u v : Value) (b o : Nat) (x0 x1 x2 : Int) (w' : World) : Prop := w'.cell? ⟨B, 0, none⟩ = some u ∧ w'.cell? ⟨B, 1, none⟩ = some v ∧ w'.cell? ⟨b, o, none⟩ = some (.int .i64 x0) ∧ w'.cell? ⟨b, o + 1, none⟩ = some (.int .i64 x1) ∧ w'.cell? ⟨b, o + 2, none⟩ = some (.int .i64 x2)
theorem VtS.below {B b o : Nat} {u v : Value} {x0 x1 x2 : Int} {w w' : World} (h : VtS B u v b o x0 x1 x2 w) (hb : Below w.heap.size w w') : VtS B u v b o x0 x1 x2 w' :=
  ⟨cell_below hb h.1, cell_below hb h.2.1, cell_below hb h.2.2.1, cell_below hb h.2.2.2.1, cell_below hb h.2.2.2.2⟩
theorem cell_at {w : World} {B : Nat} {cs : Array Value} {e : TypeId} {j : Nat} {v : Value} (h : w.heap[B]? = some (.cells cs e (0, 0))) (hv : cs[j]? = some v) : w.cell? ⟨B, j, none⟩ = some v := by
  rw [cell_of_row w B j cs e (0, 0) h, hv]
theorem frozen_at {w : World} {B : Nat} {cs : Array Value} {e : TypeId} {j : Nat} (h : w.heap[B]? = some (.cells cs e (0, 0))) : w.frozen? ⟨B, j, none⟩ = false := by simp [World.frozen?, h]
theorem put3 {w : World} {B : Nat} {T : TypeId} {z0 z1 z2 : Value} (h : w.heap[B]? = some (.cells #[z0, z1, z2] T (0, 0))) (v0 v1 v2 : Value) :
    (((w.setCell ⟨B, 0, none⟩ v0).setCell ⟨B, 1, none⟩ v1).setCell ⟨B, 2, none⟩ v2).heap[B]? = some (.cells #[v0, v1, v2] T (0, 0)) ∧ Chg B (B + 1) w (((w.setCell ⟨B, 0, none⟩ v0).setCell ⟨B, 1, none⟩ v1).setCell ⟨B, 2, none⟩ v2) := by
  have hU := (Array.getElem?_eq_some_iff.1 h).1
  have e : ((w.setCell ⟨B, 0, none⟩ v0).setCell ⟨B, 1, none⟩ v1).setCell ⟨B, 2, none⟩ v2 = putB w B [v0, v1, v2] T := by
    conv => lhs; rw [← putB_self (w := w) (g := B) (arr := [z0, z1, z2]) (e := T) h]
    rw [setCell_putB _ _ hU, setCell_putB _ _ hU, setCell_putB _ _ hU]
    rfl
  rw [e]
  exact ⟨heap_putB hU, rfl, rfl, rfl, by simp [putB], fun k _ hk => heap_putB_other k (by omega)⟩
theorem put3_more {w : World} {B : Nat} {T : TypeId} {z0 z1 z2 : Value} (h : w.heap[B]? = some (.cells #[z0, z1, z2] T (0, 0))) (v0 v1 v2 : Value) (X : Array Obj) (d : Nat) :
    (more (((w.setCell ⟨B, 0, none⟩ v0).setCell ⟨B, 1, none⟩ v1).setCell ⟨B, 2, none⟩ v2) X d).heap[B]? = some (.cells #[v0, v1, v2] T (0, 0)) ∧ Chg B (B + 1) w (more (((w.setCell ⟨B, 0, none⟩ v0).setCell ⟨B, 1, none⟩ v1).setCell ⟨B, 2, none⟩ v2) X d) := by
  obtain ⟨h1, h2⟩ := put3 h v0 v1 v2
  have hb := Below.more (Below.refl (((w.setCell ⟨B, 0, none⟩ v0).setCell ⟨B, 1, none⟩ v1).setCell ⟨B, 2, none⟩ v2).heap.size (((w.setCell ⟨B, 0, none⟩ v0).setCell ⟨B, 1, none⟩ v1).setCell ⟨B, 2, none⟩ v2)) (Nat.le_refl _) X d
  exact ⟨(hb.block B (Array.getElem?_eq_some_iff.1 h1).1).trans h1, h2.trans (Chg.of_below hb)⟩
theorem sumH_bd {g : VecD → Int} {p : MeshD} {l : List Int} (k : Nat) (hg : ∀ z ∈ l, -1000000 ≤ g (fpD p z) ∧ g (fpD p z) ≤ 1000000) : -(1000000 * ((l.take k).length : Int)) ≤ sumH g p (l.take k) ∧ sumH g p (l.take k) ≤ 1000000 * ((l.take k).length : Int) :=
  sum_bd (l := l.take k) (f := fun z => g (fpD p z)) (B := 1000000) fun z hz => hg z (List.mem_of_mem_take hz)
theorem sumG_bd {g : VecD → Int} {p : MeshD} {l : List Int} (k : Nat) (hg : ∀ z ∈ l, -1000000 ≤ g (vtx p z) ∧ g (vtx p z) ≤ 1000000) : -(1000000 * ((l.take k).length : Int)) ≤ sumG g p (l.take k) ∧ sumG g p (l.take k) ≤ 1000000 * ((l.take k).length : Int) :=
  sum_bd (l := l.take k) (f := fun z => g (vtx p z)) (B := 1000000) fun z hz => hg z (List.mem_of_mem_take hz)
set_option maxRecDepth 100000 in
set_option maxHeartbeats 8000000 in
theorem impl_vertexPoint_c (v : Value) (p : MeshD) (x : Int) (w : World) (hr : MeshR w v p) (hs : MeshSz 1048576 p) (hok : meshOk p) (hx : 0 ≤ x ∧ x < (p.nV : Int)) :
    Calls Try.prog 22 #[v, .int .i64 x] w fun e w' => e = .returned (vpE p x) ∧ Below w.heap.size w w' := by
  have HVF := Lib.hid (fun W (h : Below w.heap.size w W) => impl_vertexFaces_c v p x W (hr.below h) hs)
  have HBD := Lib.hid (fun W (h : Below w.heap.size w W) => impl_bnd_c v p W (hr.below h) hs hok)
  have HAL := Lib.hid (fun W (h : Below w.heap.size w W) => impl_all_c v p W (hr.below h) hs hok)
  have HFC := Lib.hid (fun (z : Int) (hz : 0 ≤ z ∧ z < (p.nF : Int)) W (h : Below w.heap.size w W) => facePoint_c v p z.toNat W (hr.below h) hs hok (by omega))
  have HNB := Lib.hid (show ∀ z ∈ nbOf (edgesL p.faces p.nF) x, 0 ≤ z ∧ z < (p.nV : Int) from fun z hz => nb_in hok (fun e he => he) hz)
  have HNE := Lib.hid (show ∀ z ∈ nbOf (bndL p.faces p.nF) x, 0 ≤ z ∧ z < (p.nV : Int) from fun z hz => nb_in hok (fun e he => (List.mem_filter.1 he).1) hz)
  have HNF := Lib.hid (show ∀ z ∈ vfTo p.faces x p.nF, 0 ≤ z ∧ z < (p.nF : Int) from fun z hz => vf_in hz)
  have HVI := Lib.hid (fun z (hz : 0 ≤ z ∧ z < (p.nV : Int)) => vtx_in hok hz)
  have HFI := Lib.hid (fun z (hz : 0 ≤ z ∧ z < (p.nF : Int)) => fpD_in hok hz)
  obtain ⟨a, c, a', c', rfl, h1, _⟩ := hr
  obtain ⟨ix, rfl⟩ := Int.eq_ofNat_of_zero_le hx.1
  have hx1 := hx.2
  have hx0 : ix < p.nV := by omega
  have hold := HVI.out (ix : Int) hx
  obtain ⟨b, o, rfl, hb, hc⟩ := h1 (by omega)
  have HVC := Lib.hid (show ∀ z : Nat, z < p.nV → w.cell? ⟨b, o + z * 3, none⟩ = some (.int .i64 (vtx p z).f0) ∧ w.cell? ⟨b, o + z * 3 + 1, none⟩ = some (.int .i64 (vtx p z).f1) ∧ w.cell? ⟨b, o + z * 3 + 2, none⟩ = some (.int .i64 (vtx p z).f2) from fun z hz => ⟨hc z hz 0 (by omega), hc z hz 1 (by omega), hc z hz 2 (by omega)⟩)
  obtain ⟨c0, c1, c2⟩ := HVC.out ix hx0
  clear hc h1 hs
  have hfl : (vfTo p.faces ix p.nF).length ≤ 64 := Nat.le_trans (vfTo_len _ _ _) hok.2.1
  have hel : (bndL p.faces p.nF).length ≤ 256 := by have := bndL_len p.faces p.nF; have := hok.2.1; omega
  have hal : (edgesL p.faces p.nF).length ≤ 256 := by have := edgesL_len p.faces p.nF; have := hok.2.1; omega
  have hnl := nbOf_len (ix : Int) (edgesL p.faces p.nF)
  clear hok
  obtain ⟨R, hR⟩ : ∃ R, R = vpE p ix := ⟨_, rfl⟩
  rw [← hR]
  have HVE := Lib.hid hR
  clear hR
  unfold vpE at HVE
  dsimp only at HVE
  generalize vfTo p.faces ix p.nF = faces at *
  generalize bndL p.faces p.nF = LB at *
  generalize edgesL p.faces p.nF = LA at *
  generalize hvx : vtx p ix = vx at *
  have HVX := Lib.hid hvx
  clear hvx
  obtain ⟨x0, x1, x2⟩ := vx
  dsimp only at c0 c1 c2 hold HVE
  have HW0 := Lib.hid (show VtS w.heap.size (.slice (some ⟨b, o, none⟩) p.nV c) (.slice a' p.nF c') b (o + ix * 3) x0 x1 x2 ((w.alloc (.cells #[.slice (some ⟨b, o, none⟩) p.nV c, .slice a' p.nF c'] 26)).alloc (.cells #[.int .i64 0, .int .i64 0, .int .i64 0] 29)) from ⟨by simp [go_sem], by simp [go_sem], cell_below (by repeat (first | exact Below.refl _ _ | refine Below.drew ?_ | refine Below.alloc ?_ (by first | exact Nat.le_refl _ | (simp; done) | (simp; omega) | omega) _ | refine Below.more ?_ (by first | exact Nat.le_refl _ | (simp; done) | (simp; omega) | omega) _ _ | refine Below.setCell ?_ (by first | exact Nat.le_refl _ | (simp; done) | (simp; omega) | omega) _ | assumption)) c0, cell_below (by repeat (first | exact Below.refl _ _ | refine Below.drew ?_ | refine Below.alloc ?_ (by first | exact Nat.le_refl _ | (simp; done) | (simp; omega) | omega) _ | refine Below.more ?_ (by first | exact Nat.le_refl _ | (simp; done) | (simp; omega) | omega) _ _ | refine Below.setCell ?_ (by first | exact Nat.le_refl _ | (simp; done) | (simp; omega) | omega) _ | assumption)) c1, cell_below (by repeat (first | exact Below.refl _ _ | refine Below.drew ?_ | refine Below.alloc ?_ (by first | exact Nat.le_refl _ | (simp; done) | (simp; omega) | omega) _ | refine Below.more ?_ (by first | exact Nat.le_refl _ | (simp; done) | (simp; omega) | omega) _ _ | refine Below.setCell ?_ (by first | exact Nat.le_refl _ | (simp; done) | (simp; omega) | omega) _ | assumption)) c2⟩)
  go_enter Try.func22, Try.ntmps22
  go_wp2
  have r0 : ∀ j, j < 3 → ((w.alloc (.cells #[.slice (some ⟨b, o, none⟩) p.nV c, .slice a' p.nF c'] 26)).alloc (.cells #[.int .i64 0, .int .i64 0, .int .i64 0] 29)).cell? ⟨w.heap.size + 1, j, none⟩ = some (.int .i64 0) ∧ ((w.alloc (.cells #[.slice (some ⟨b, o, none⟩) p.nV c, .slice a' p.nF c'] 26)).alloc (.cells #[.int .i64 0, .int .i64 0, .int .i64 0] 29)).frozen? ⟨w.heap.size + 1, j, none⟩ = false := fun j hj => by
    match j, hj with
    | 0, _ => simp [go_sem]
    | 1, _ => simp [go_sem]
    | 2, _ => simp [go_sem]
  have HR0 := Lib.hid r0
  have HBW := Lib.hid (show Below w.heap.size w ((w.alloc (.cells #[.slice (some ⟨b, o, none⟩) p.nV c, .slice a' p.nF c'] 26)).alloc (.cells #[.int .i64 0, .int .i64 0, .int .i64 0] 29)) from (by repeat (first | exact Below.refl _ _ | refine Below.drew ?_ | refine Below.alloc ?_ (by first | exact Nat.le_refl _ | (simp; done) | (simp; omega) | omega) _ | refine Below.more ?_ (by first | exact Nat.le_refl _ | (simp; done) | (simp; omega) | omega) _ _ | refine Below.setCell ?_ (by first | exact Nat.le_refl _ | (simp; done) | (simp; omega) | omega) _ | assumption)))
  have hsz0 : ((w.alloc (.cells #[.slice (some ⟨b, o, none⟩) p.nV c, .slice a' p.nF c'] 26)).alloc (.cells #[.int .i64 0, .int .i64 0, .int .i64 0] 29)).heap.size ≥ w.heap.size + 2 := by simp
  clear r0
  generalize (w.alloc (.cells #[.slice (some ⟨b, o, none⟩) p.nV c, .slice a' p.nF c'] 26)).alloc (.cells #[.int .i64 0, .int .i64 0, .int .i64 0] 29) = W0 at *
  obtain ⟨p1, p2, p3, p4, p5⟩ := HW0.out
  have HA := Lib.hid (show ∀ W, VtS w.heap.size (.slice (some ⟨b, o, none⟩) p.nV c) (.slice a' p.nF c') b (o + ix * 3) x0 x1 x2 W → Below W0.heap.size W0 W → Calls Try.prog 44 #[.agg #[.slice (some ⟨b, o, none⟩) p.nV c, .slice a' p.nF c'], .int .i64 ix] W fun e w2 => ∃ fa fc, e = .returned (.slice fa faces.length fc) ∧ VtS w.heap.size (.slice (some ⟨b, o, none⟩) p.nV c) (.slice a' p.nF c') b (o + ix * 3) x0 x1 x2 w2 ∧ Below W0.heap.size W0 w2 ∧ Below W.heap.size W w2 ∧ Ow w2 W.heap.size w2.heap.size fa 1 faces.length (intAt faces) from fun W hS hW => (HVF.out W (HBW.out.trans (hW.mono HBW.out.size))).mono fun e w2 ⟨fa, fc, he, ho, hb⟩ => ⟨fa, fc, he, hS.below hb, hW.trans (hb.mono hW.size), hb, ho⟩)
  have HB := Lib.hid (show ∀ W, VtS w.heap.size (.slice (some ⟨b, o, none⟩) p.nV c) (.slice a' p.nF c') b (o + ix * 3) x0 x1 x2 W → Below W0.heap.size W0 W → Calls Try.prog 32 #[.agg #[.slice (some ⟨b, o, none⟩) p.nV c, .slice a' p.nF c']] W fun e w2 => ∃ u, e = .returned u ∧ VtS w.heap.size (.slice (some ⟨b, o, none⟩) p.nV c) (.slice a' p.nF c') b (o + ix * 3) x0 x1 x2 w2 ∧ Below W0.heap.size W0 w2 ∧ Below W.heap.size W w2 ∧ w2.ownsRow 0 55 2 u LB.length (edgeVals LB) from fun W hS hW => (HBD.out W (HBW.out.trans (hW.mono HBW.out.size))).mono fun e w2 ⟨u, he, ho, hb⟩ => ⟨u, he, hS.below hb, hW.trans (hb.mono hW.size), hb, own_base ho (Nat.zero_le _)⟩)
  have HC := Lib.hid (show ∀ u W, VtS w.heap.size (.slice (some ⟨b, o, none⟩) p.nV c) (.slice a' p.nF c') b (o + ix * 3) x0 x1 x2 W → Below W0.heap.size W0 W → W.ownsRow 0 55 2 u LB.length (edgeVals LB) → Calls Try.prog 45 #[u, .int .i64 ix] W fun e w2 => ∃ ea ec, e = .returned (.slice ea (sortI (nbOf LB ix)).length ec) ∧ VtS w.heap.size (.slice (some ⟨b, o, none⟩) p.nV c) (.slice a' p.nF c') b (o + ix * 3) x0 x1 x2 w2 ∧ Below W0.heap.size W0 w2 ∧ Below W.heap.size W w2 ∧ Ow w2 W.heap.size w2.heap.size ea 1 (sortI (nbOf LB ix)).length (intAt (sortI (nbOf LB ix))) from fun u W hS hW ho => (impl_neighbors_c u LB ix 0 W ho (by omega)).mono fun e w2 ⟨ea, ec, he, ho, hb⟩ => ⟨ea, ec, he, hS.below hb, hW.trans (hb.mono hW.size), hb, ho⟩)
  go_upto_region 1 with fail
  go_cut [5, 6, 7] (fun s5 s6 s7 wx => ∃ (B : Nat) (fa : Option Addr) (fc : Nat) (ea : Option Addr) (ec : Nat), s5 = .pointer (some ⟨B, 0, none⟩) ∧ s6 = .slice fa faces.length fc ∧ s7 = .slice ea (sortI (nbOf LB ix)).length ec ∧ W0.heap.size ≤ B ∧ wx.heap[B]? = some (.cells #[.int .i64 x0, .int .i64 x1, .int .i64 x2] 29 (0, 0)) ∧ Sl wx fa 1 faces.length (intAt faces) ∧ Sl wx ea 1 (sortI (nbOf LB ix)).length (intAt (sortI (nbOf LB ix))) ∧ Below W0.heap.size W0 wx)
  case first =>
    go_region_held3 (VtS w.heap.size (.slice (some ⟨b, o, none⟩) p.nV c) (.slice a' p.nF c') b (o + ix * 3) x0 x1 x2) (first | assumption | exact ⟨p1, p2, p3, p4, p5⟩ | exact HW0.out.below (by repeat (first | exact Below.refl _ _ | refine Below.drew ?_ | refine Below.alloc ?_ (by first | exact Nat.le_refl _ | (simp; done) | (simp; omega) | omega) _ | refine Below.more ?_ (by first | exact Nat.le_refl _ | (simp; done) | (simp; omega) | omega) _ _ | refine Below.setCell ?_ (by first | exact Nat.le_refl _ | (simp; done) | (simp; omega) | omega) _ | assumption))) (first
      | (go_at_call 44
         refine (HA.out _ ?_ ?_).mono ?_
         · (first | assumption | exact ⟨p1, p2, p3, p4, p5⟩ | exact HW0.out.below (by repeat (first | exact Below.refl _ _ | refine Below.drew ?_ | refine Below.alloc ?_ (by first | exact Nat.le_refl _ | (simp; done) | (simp; omega) | omega) _ | refine Below.more ?_ (by first | exact Nat.le_refl _ | (simp; done) | (simp; omega) | omega) _ _ | refine Below.setCell ?_ (by first | exact Nat.le_refl _ | (simp; done) | (simp; omega) | omega) _ | assumption)))
         · first | assumption | exact (by repeat (first | exact Below.refl _ _ | refine Below.drew ?_ | refine Below.alloc ?_ (by first | exact Nat.le_refl _ | (simp; done) | (simp; omega) | omega) _ | refine Below.more ?_ (by first | exact Nat.le_refl _ | (simp; done) | (simp; omega) | omega) _ _ | refine Below.setCell ?_ (by first | exact Nat.le_refl _ | (simp; done) | (simp; omega) | omega) _ | assumption))
         rintro e wa ⟨fa, fc, rfl, q, qq, qb, ho⟩
         have qs := qq.size
         have qw := qb.size
         (try simp at qw)
         obtain ⟨p1, p2, p3, p4, p5⟩ := q
         have HOA := Lib.hid ho
         clear ho
         first | have qn := (qb.block _ (by simp)).trans (heap_alloc_new _ _) | skip
         first | (have bx0 := cell_at (j := 0) qn rfl; have bx1 := cell_at (j := 1) qn rfl; have bx2 := cell_at (j := 2) qn rfl; have bz0 := frozen_at (j := 0) qn; have bz1 := frozen_at (j := 1) qn; have bz2 := frozen_at (j := 2) qn; have bzl := (Array.getElem?_eq_some_iff.1 qn).1) | skip)
      | (go_at_call 32
         refine (HB.out _ ?_ ?_).mono ?_
         · (first | assumption | exact ⟨p1, p2, p3, p4, p5⟩ | exact HW0.out.below (by repeat (first | exact Below.refl _ _ | refine Below.drew ?_ | refine Below.alloc ?_ (by first | exact Nat.le_refl _ | (simp; done) | (simp; omega) | omega) _ | refine Below.more ?_ (by first | exact Nat.le_refl _ | (simp; done) | (simp; omega) | omega) _ _ | refine Below.setCell ?_ (by first | exact Nat.le_refl _ | (simp; done) | (simp; omega) | omega) _ | assumption)))
         · first | assumption | exact (by repeat (first | exact Below.refl _ _ | refine Below.drew ?_ | refine Below.alloc ?_ (by first | exact Nat.le_refl _ | (simp; done) | (simp; omega) | omega) _ | refine Below.more ?_ (by first | exact Nat.le_refl _ | (simp; done) | (simp; omega) | omega) _ _ | refine Below.setCell ?_ (by first | exact Nat.le_refl _ | (simp; done) | (simp; omega) | omega) _ | assumption))
         rintro e wb ⟨u, rfl, q, qq2, qb, ho⟩
         have qs2 := qq2.size
         have qw2 := qb.size
         (try simp at qw2)
         obtain ⟨p1, p2, p3, p4, p5⟩ := q
         have HOB := Lib.hid ho
         first | have HOA2 := Lib.hid (HOA.out.below qb) | have HOA2 := Lib.hid ((HOA.out.below (Below.alloc (Below.refl _ _) (Nat.le_refl _) _)).below qb)
         clear ho
         first | have qn := (qb.block _ (Array.getElem?_eq_some_iff.1 qn).1).trans qn | have qn := (qb.block _ (by simp)).trans (heap_alloc_new _ _) | skip
         first | (have bx0 := cell_at (j := 0) qn rfl; have bx1 := cell_at (j := 1) qn rfl; have bx2 := cell_at (j := 2) qn rfl; have bz0 := frozen_at (j := 0) qn; have bz1 := frozen_at (j := 1) qn; have bz2 := frozen_at (j := 2) qn; have bzl := (Array.getElem?_eq_some_iff.1 qn).1) | skip)
      | (go_at_call 45
         refine (HC.out _ _ ?_ ?_ ?_).mono ?_
         · (first | assumption | exact ⟨p1, p2, p3, p4, p5⟩ | exact HW0.out.below (by repeat (first | exact Below.refl _ _ | refine Below.drew ?_ | refine Below.alloc ?_ (by first | exact Nat.le_refl _ | (simp; done) | (simp; omega) | omega) _ | refine Below.more ?_ (by first | exact Nat.le_refl _ | (simp; done) | (simp; omega) | omega) _ _ | refine Below.setCell ?_ (by first | exact Nat.le_refl _ | (simp; done) | (simp; omega) | omega) _ | assumption)))
         · first | assumption | exact (by repeat (first | exact Below.refl _ _ | refine Below.drew ?_ | refine Below.alloc ?_ (by first | exact Nat.le_refl _ | (simp; done) | (simp; omega) | omega) _ | refine Below.more ?_ (by first | exact Nat.le_refl _ | (simp; done) | (simp; omega) | omega) _ _ | refine Below.setCell ?_ (by first | exact Nat.le_refl _ | (simp; done) | (simp; omega) | omega) _ | assumption))
         · first | exact HOB.out | exact own_kept HOB.out (Below.alloc (Below.refl _ _) (Nat.le_refl _) _)
         rintro e wc ⟨ea, ec, rfl, q, qq3, qb, ho⟩
         have qs3 := qq3.size
         have qw3 := qb.size
         (try simp at qw3)
         obtain ⟨p1, p2, p3, p4, p5⟩ := q
         have HOC := Lib.hid ho
         first | have HOA3 := Lib.hid (HOA2.out.below qb) | have HOA3 := Lib.hid ((HOA2.out.below (Below.alloc (Below.refl _ _) (Nat.le_refl _) _)).below qb)
         clear ho
         first | have qn := (qb.block _ (Array.getElem?_eq_some_iff.1 qn).1).trans qn | have qn := (qb.block _ (by simp)).trans (heap_alloc_new _ _) | skip
         first | (have bx0 := cell_at (j := 0) qn rfl; have bx1 := cell_at (j := 1) qn rfl; have bx2 := cell_at (j := 2) qn rfl; have bz0 := frozen_at (j := 0) qn; have bz1 := frozen_at (j := 1) qn; have bz2 := frozen_at (j := 2) qn; have bzl := (Array.getElem?_eq_some_iff.1 qn).1) | skip))
    all_goals (go_wp2_with fail; go_meet)
    all_goals first
      | exact ⟨_, _, _, _, _, rfl, rfl, rfl, qq3.size, heap_alloc_new _ _, (HOA3.out.below (Below.alloc (Below.refl _ _) (Nat.le_refl _) _)).sl, (HOC.out.below (Below.alloc (Below.refl _ _) (Nat.le_refl _) _)).sl, (by repeat (first | exact Below.refl _ _ | refine Below.drew ?_ | refine Below.alloc ?_ (by first | exact Nat.le_refl _ | (simp; done) | (simp; omega) | omega) _ | refine Below.more ?_ (by first | exact Nat.le_refl _ | (simp; done) | (simp; omega) | omega) _ _ | refine Below.setCell ?_ (by first | exact Nat.le_refl _ | (simp; done) | (simp; omega) | omega) _ | assumption))⟩
      | exact ⟨_, _, _, _, _, rfl, rfl, rfl, by omega, (put3 qn _ _ _).1, (HOA3.out.chg (put3 qn _ _ _).2 (by first | omega | (simp; done) | (simp; omega))).sl, (HOC.out.chg (put3 qn _ _ _).2 (by first | omega | (simp; done) | (simp; omega))).sl, Below.chg qq3 (put3 qn _ _ _).2 (by omega) (by omega)⟩
  case rest =>
    rename World => wx
    obtain ⟨B, fa, fc, ea, ec, rfl, rfl, rfl, hB, hxB, hsa, hse, hbx⟩ := hcut
    clear HA HB HC HVF HBD
    have HBX := Lib.hid (HBW.out.trans (hbx.mono HBW.out.size))
    have hsz1 := hbx.size
    have m0 := cell_below hbx HW0.out.1
    have m1 := cell_below hbx HW0.out.2.1
    have r0 := cell_below hbx (HR0.out 0 (by omega)).1
    have r1 := cell_below hbx (HR0.out 1 (by omega)).1
    have r2 := cell_below hbx (HR0.out 2 (by omega)).1
    have z0 := frozen_below hbx (HR0.out 0 (by omega)).1 (HR0.out 0 (by omega)).2
    have z1 := frozen_below hbx (HR0.out 1 (by omega)).1 (HR0.out 1 (by omega)).2
    have z2 := frozen_below hbx (HR0.out 2 (by omega)).1 (HR0.out 2 (by omega)).2
    have b0 := cell_at (j := 0) hxB rfl
    have b1 := cell_at (j := 1) hxB rfl
    have b2 := cell_at (j := 2) hxB rfl
    have hBl := (Array.getElem?_eq_some_iff.1 hxB).1
    have hwl : w.heap.size < wx.heap.size := by omega
    have hwl1 : w.heap.size + 1 < wx.heap.size := by omega
    have hbl : b < wx.heap.size := by omega
    have HVX2 := Lib.hid (fun (z : Nat) (hz : z < p.nV) => (⟨cell_below HBX.out (HVC.out z hz).1, cell_below HBX.out (HVC.out z hz).2.1, cell_below HBX.out (HVC.out z hz).2.2⟩ : wx.cell? ⟨b, o + z * 3, none⟩ = some (.int .i64 (vtx p z).f0) ∧ wx.cell? ⟨b, o + z * 3 + 1, none⟩ = some (.int .i64 (vtx p z).f1) ∧ wx.cell? ⟨b, o + z * 3 + 2, none⟩ = some (.int .i64 (vtx p z).f2)))
    have HFC2 := Lib.hid (fun (z : Int) (hz : 0 ≤ z ∧ z < (p.nF : Int)) W (h : Below wx.heap.size wx W) => HFC.out z hz W (HBX.out.trans (h.mono HBX.out.size)))
    have HAL2 := Lib.hid (fun W (h : Below wx.heap.size wx W) => HAL.out W (HBX.out.trans (h.mono HBX.out.size)))
    have HNE2 : Hid (∀ z ∈ sortI (nbOf LB ix), 0 ≤ z ∧ z < (p.nV : Int)) := Lib.hid (fun z hz => HNE.out z (mem_sortI.1 hz))
    have HNB2 : Hid (∀ z ∈ sortI (nbOf LA ix), 0 ≤ z ∧ z < (p.nV : Int)) := Lib.hid (fun z hz => HNB.out z (mem_sortI.1 hz))
    rw [← len_sortI (nbOf LB ix), ← len_sortI (nbOf LA ix), ← sumG_sort (·.f0) p (nbOf LB ix), ← sumG_sort (·.f1) p (nbOf LB ix), ← sumG_sort (·.f2) p (nbOf LB ix), ← sumG_sort (·.f0) p (nbOf LA ix), ← sumG_sort (·.f1) p (nbOf LA ix), ← sumG_sort (·.f2) p (nbOf LA ix)] at HVE
    rw [← len_sortI (nbOf LA ix)] at hnl
    clear HFC HAL HNE HNB HVC HBW HW0 HR0 hbx p1 p2 p3 p4 p5 c0 c1 c2 hx hx1 hB hb hsz0 hsz1
    have HIN := Lib.hid (fun u W (h : W.ownsRow 0 55 2 u LA.length (edgeVals LA)) => impl_neighbors_c u LA ix 0 W h (by omega))
    generalize sortI (nbOf LB ix) = E at *
    generalize sortI (nbOf LA ix) = N at *
    have HSA := Lib.hid hsa
    have HSE := Lib.hid hse
    have HXV := Lib.hid hxB
    clear hsa hse hxB
    obtain ⟨⟨o00, o01⟩, ⟨o10, o11⟩, ⟨o20, o21⟩⟩ := hold
    by_cases h2 : E.length = 2
    · rw [if_pos h2] at HVE
      have hq1 : ((E.length : Int) == 2) = true := by simp; omega
      obtain ⟨ez, eu, rfl⟩ : ∃ z u, E = [z, u] := by
        match E, h2 with
        | [z, u], _ => exact ⟨z, u, rfl⟩
      have hz := HNE2.out ez (by simp)
      have hu := HNE2.out eu (by simp)
      obtain ⟨z, rfl⟩ := Int.eq_ofNat_of_zero_le hz.1
      obtain ⟨u, rfl⟩ := Int.eq_ofNat_of_zero_le hu.1
      obtain ⟨⟨v00, v01⟩, ⟨v10, v11⟩, ⟨v20, v21⟩⟩ := HVI.out z hz
      obtain ⟨⟨u00, u01⟩, ⟨u10, u11⟩, ⟨u20, u21⟩⟩ := HVI.out u hu
      have hzn := hz.2
      have hun := hu.2
      obtain ⟨a0, a1, a2⟩ := HVX2.out z (by omega)
      obtain ⟨d0, d1, d2⟩ := HVX2.out u (by omega)
      have HV2 : Hid (R = vecV (fdivI (6 * x0 + (vtx p z).f0 + (vtx p u).f0) 8) (fdivI (6 * x1 + (vtx p z).f1 + (vtx p u).f1) 8) (fdivI (6 * x2 + (vtx p z).f2 + (vtx p u).f2) 8)) := Lib.hid (by
        rw [HVE.out]
        have e : ∀ g : VecD → Int, sumG g p [(z : Int), (u : Int)] = g (vtx p z) + g (vtx p u) := fun g => by simp [sumG]
        rw [e, e, e]
        have e2 : ∀ x y t : Int, x * 6 + (y + t) = 6 * x + y + t := fun x y t => by omega
        rw [e2, e2, e2])
      obtain ⟨fb, fo, rfl, hfb, hfc⟩ := HSE.out (by simp)
      have f0 : wx.cell? ⟨fb, fo, none⟩ = some (.int .i64 z) := by simpa [intAt] using hfc 0 (by simp) 0 (by omega)
      have f1 : wx.cell? ⟨fb, fo + 1, none⟩ = some (.int .i64 u) := by simpa [intAt] using hfc 1 (by simp) 0 (by omega)
      clear hfc HVE HVX2 HNE2 HSE HSA hz hu h2
      generalize vtx p z = vz at *
      generalize vtx p u = vu at *
      obtain ⟨y0, y1, y2⟩ := vz
      obtain ⟨t0, t1, t2⟩ := vu
      dsimp only at a0 a1 a2 d0 d1 d2 HV2 v00 v01 v10 v11 v20 v21 u00 u01 u10 u11 u20 u21
      have i0 : In64 (6 * x0) := ⟨by omega, by omega⟩
      have i1 : In64 (6 * x1) := ⟨by omega, by omega⟩
      have i2 : In64 (6 * x2) := ⟨by omega, by omega⟩
      have j0 : In64 (6 * x0 + y0) := ⟨by omega, by omega⟩
      have j1 : In64 (6 * x1 + y1) := ⟨by omega, by omega⟩
      have j2 : In64 (6 * x2 + y2) := ⟨by omega, by omega⟩
      have k0 : In64 (6 * x0 + y0 + t0) := ⟨by omega, by omega⟩
      have k1 : In64 (6 * x1 + y1 + t1) := ⟨by omega, by omega⟩
      have k2 : In64 (6 * x2 + y2 + t2) := ⟨by omega, by omega⟩
      go_wp2
      ((first | refine region_qt2 19 (by kernel_rfl) (by kernel_rfl) ?_ | refine region_qt 19 (by kernel_rfl) (by kernel_rfl) ?_); simp only [List.take_succ_cons, List.take_zero, List.drop_succ_cons, List.drop_zero])
      repeat (quiet_step (fail))
      (refine wpQuiet_step (fun K hK => ?_); go_simp; refine ⟨_, fun zt => ext_below (impl_times x0 x1 x2 6 _ i0 i1 i2), hK _ ?_⟩; clear hK K)
      repeat (quiet_step (fail))
      (refine wpQuiet_step (fun K hK => ?_); go_simp; refine ⟨_, fun zt => ext_below (impl_plus _ _ _ y0 y1 y2 _ j0 j1 j2), hK _ ?_⟩; clear hK K)
      repeat (quiet_step (fail))
      (refine wpQuiet_step (fun K hK => ?_); go_simp; refine ⟨_, fun zt => ext_below (impl_plus _ _ _ t0 t1 t2 _ k0 k1 k2), hK _ ?_⟩; clear hK K)
      repeat (quiet_step (fail))
      (refine wpQuiet_step (fun K hK => ?_); go_simp; refine ⟨_, fun zt => ext_below (impl_over _ _ _ 8 _ k0 k1 k2), hK _ ?_⟩; clear hK K)
      repeat (quiet_step (fail))
      (refine wpQuiet_nil ?_; intro X nX)
      go_wp2
      exact bodyPost_ret (v := vecV _ _ _) (by simp [results, Try.results22, go_sem, r0, r1, r2, hwl1]) rfl ⟨congrArg Ending.returned HV2.out.symm, Below.trans HBX.out (by repeat (first | exact Below.refl _ _ | refine Below.drew ?_ | refine Below.alloc ?_ (by first | exact Nat.le_refl _ | (simp; done) | (simp; omega) | omega) _ | refine Below.more ?_ (by first | exact Nat.le_refl _ | (simp; done) | (simp; omega) | omega) _ _ | refine Below.setCell ?_ (by first | exact Nat.le_refl _ | (simp; done) | (simp; omega) | omega) _ | assumption))⟩
    · rw [if_neg h2] at HVE
      have hq1 : ((E.length : Int) == 2) = false := by simp; omega
      by_cases h3 : 0 < E.length
      · rw [if_pos (.inl h3)] at HVE
        have hq2 : (0 : Int) < (E.length : Int) := by omega
        clear h2
        go_wp2
        exact bodyPost_ret (v := vecV _ _ _) (by simp [results, Try.results22, go_sem, r0, r1, r2]) rfl ⟨congrArg Ending.returned HVE.out.symm, Below.trans HBX.out (by repeat (first | exact Below.refl _ _ | refine Below.drew ?_ | refine Below.alloc ?_ (by first | exact Nat.le_refl _ | (simp; done) | (simp; omega) | omega) _ | refine Below.more ?_ (by first | exact Nat.le_refl _ | (simp; done) | (simp; omega) | omega) _ _ | refine Below.setCell ?_ (by first | exact Nat.le_refl _ | (simp; done) | (simp; omega) | omega) _ | assumption))⟩
      have hq2 : ¬ (0 : Int) < (E.length : Int) := by omega
      by_cases h4 : faces.length = 0
      · rw [if_pos (.inr h4)] at HVE
        have hq3 : ((faces.length : Int) == 0) = true := by rw [beq_iff_eq]; omega
        clear h2
        go_wp2
        exact bodyPost_ret (v := vecV _ _ _) (by simp [results, Try.results22, go_sem, r0, r1, r2]) rfl ⟨congrArg Ending.returned HVE.out.symm, Below.trans HBX.out (by repeat (first | exact Below.refl _ _ | refine Below.drew ?_ | refine Below.alloc ?_ (by first | exact Nat.le_refl _ | (simp; done) | (simp; omega) | omega) _ | refine Below.more ?_ (by first | exact Nat.le_refl _ | (simp; done) | (simp; omega) | omega) _ _ | refine Below.setCell ?_ (by first | exact Nat.le_refl _ | (simp; done) | (simp; omega) | omega) _ | assumption))⟩
      rw [if_neg (show ¬ (0 < E.length ∨ faces.length = 0) from by omega)] at HVE
      have hq3 : ((faces.length : Int) == 0) = false := by rw [beq_eq_false_iff_ne]; omega
      have hfn : 0 < faces.length := by omega
      have h30 : E.length = 0 := by omega
      rw [h30]
      clear hq1 hq2 h30
      have hN := show N.length ≤ 512 from by omega
      clear HNE2 HSE h2 h3 h4 hel hal hnl hx0
      have HF0 := Lib.hid (fun k => sumH_bd (g := (·.f0)) (p := p) (l := faces) k (fun z hz => (HFI.out z (HNF.out z hz)).1))
      have HF1 := Lib.hid (fun k => sumH_bd (g := (·.f1)) (p := p) (l := faces) k (fun z hz => (HFI.out z (HNF.out z hz)).2.1))
      have HF2 := Lib.hid (fun k => sumH_bd (g := (·.f2)) (p := p) (l := faces) k (fun z hz => (HFI.out z (HNF.out z hz)).2.2))
      have HG0 := Lib.hid (fun k => sumG_bd (g := (·.f0)) (p := p) (l := N) k (fun z hz => (HVI.out z (HNB2.out z hz)).1))
      have HG1 := Lib.hid (fun k => sumG_bd (g := (·.f1)) (p := p) (l := N) k (fun z hz => (HVI.out z (HNB2.out z hz)).2.1))
      have HG2 := Lib.hid (fun k => sumG_bd (g := (·.f2)) (p := p) (l := N) k (fun z hz => (HVI.out z (HNB2.out z hz)).2.2))
      have HTF := Lib.hid (fun k (hk : k < faces.length) => (by rw [List.take_add_one, List.getElem?_eq_getElem hk, List.getD_eq_getElem?_getD, List.getElem?_eq_getElem hk]; rfl : faces.take (k + 1) = faces.take k ++ [faces.getD k 0]))
      have HTN := Lib.hid (fun k (hk : k < N.length) => (by rw [List.take_add_one, List.getElem?_eq_getElem hk, List.getD_eq_getElem?_getD, List.getElem?_eq_getElem hk]; rfl : N.take (k + 1) = N.take k ++ [N.getD k 0]))
      have HMF := Lib.hid (fun k (hk : k < faces.length) => HNF.out (faces.getD k 0) (by rw [List.getD_eq_getElem?_getD, List.getElem?_eq_getElem hk]; exact List.getElem_mem hk))
      have HMN := Lib.hid (fun k (hk : k < N.length) => HNB2.out (N.getD k 0) (by rw [List.getD_eq_getElem?_getD, List.getElem?_eq_getElem hk]; exact List.getElem_mem hk))
      have HLF := Lib.hid (fun k => (by rw [List.length_take]; omega : (faces.take k).length ≤ 64))
      have HLN := Lib.hid (fun k => (by rw [List.length_take]; omega : (N.take k).length ≤ 512))
      have HAF := Lib.hid (List.take_length (l := faces))
      have HAN := Lib.hid (List.take_length (l := N))
      clear HNF HNB2
      generalize hfl2 : faces.length = n at *
      have HFN := Lib.hid hfl2
      clear hfl2
      have hq : -3904 ≤ (n : Int) * ((n : Int) - 3) ∧ (n : Int) * ((n : Int) - 3) ≤ 3904 := by
        have := mul_bd (x := (n : Int)) (k := (n : Int) - 3) (A := 64) (B := 61) (by omega) (by omega)
        omega
      have hqq : 0 ≤ (n : Int) * (n : Int) ∧ (n : Int) * (n : Int) ≤ 4096 := by
        have := mul_bd (x := (n : Int)) (k := (n : Int)) (A := 64) (B := 64) (by omega) (by omega)
        exact ⟨Int.mul_nonneg (by omega) (by omega), by omega⟩
      have wq1 : IntKind.i64.wrap ((n : Int) * ((n : Int) - 3)) = (n : Int) * ((n : Int) - 3) := IntWalk.i64_in _ ⟨by omega, by omega⟩
      have wq2 : IntKind.i64.wrap ((n : Int) * (n : Int)) = (n : Int) * (n : Int) := IntWalk.i64_in _ ⟨by omega, by omega⟩
      have s0 := mul_bd (x := x0) (k := (n : Int) * ((n : Int) - 3)) (A := 1000000) (B := 3904) ⟨o00, o01⟩ hq
      have s1 := mul_bd (x := x1) (k := (n : Int) * ((n : Int) - 3)) (A := 1000000) (B := 3904) ⟨o10, o11⟩ hq
      have s2 := mul_bd (x := x2) (k := (n : Int) * ((n : Int) - 3)) (A := 1000000) (B := 3904) ⟨o20, o21⟩ hq
      have HM := Lib.hid (fun x : Int => Int.mul_comm ((n : Int) * ((n : Int) - 3)) x)
      have HTM := Lib.hid (fun W (i0 : In64 (((n : Int) * ((n : Int) - 3)) * x0)) (i1 : In64 (((n : Int) * ((n : Int) - 3)) * x1)) (i2 : In64 (((n : Int) * ((n : Int) - 3)) * x2)) => impl_times x0 x1 x2 ((n : Int) * ((n : Int) - 3)) W i0 i1 i2)
      rw [HM.out, HM.out, HM.out] at HTM
      have HOV := Lib.hid (fun a b c W h1 h2 h3 => impl_over a b c ((n : Int) * (n : Int)) W h1 h2 h3)
      generalize hq0 : (n : Int) * ((n : Int) - 3) = q at *
      generalize hqq0 : (n : Int) * (n : Int) = qq at *
      clear HM
      generalize x0 * q = c0 at *
      generalize x1 * q = c1 at *
      generalize x2 * q = c2 at *
      go_upto_region 7 with fail
      go_cut [9] (fun s9 wy => ∃ T : Nat, s9 = .pointer (some ⟨T, 0, none⟩) ∧ wx.heap.size ≤ T ∧ wy.heap[T]? = some (.cells #[.int .i64 c0, .int .i64 c1, .int .i64 c2] 29 (0, 0)) ∧ Below wx.heap.size wx wy)
      case first =>
        go_wp2_with (go_at_call 46; go_loud (refine (HTM.out _ ⟨by omega, by omega⟩ ⟨by omega, by omega⟩ ⟨by omega, by omega⟩).mono ?_); rintro e wn ⟨rfl, hbn⟩; obtain ⟨X, nX, rfl⟩ := Below.ext hbn; clear hbn)
        go_meet
        exact ⟨_, rfl, Nat.le_add_right _ _, by have h := heap_alloc_new (more wx X nX) (.cells #[.int .i64 c0, .int .i64 c1, .int .i64 c2] 29); simpa using h, (by repeat (first | exact Below.refl _ _ | refine Below.drew ?_ | refine Below.alloc ?_ (by first | exact Nat.le_refl _ | (simp; done) | (simp; omega) | omega) _ | refine Below.more ?_ (by first | exact Nat.le_refl _ | (simp; done) | (simp; omega) | omega) _ _ | refine Below.setCell ?_ (by first | exact Nat.le_refl _ | (simp; done) | (simp; omega) | omega) _ | assumption))⟩
      case rest =>
        rename World => wt
        obtain ⟨T, rfl, hT, hTc, hbt⟩ := hcut
        have HBT := Lib.hid hbt
        have HTC := Lib.hid hTc
        clear hbt hTc HTM wq1 hq hq0
        go_wp2
        go_loopw [69] (fun i wr => ∃ (k : Nat), k ≤ n ∧ i = .int .i64 k ∧ Below wx.heap.size wx wr ∧ wr.heap[T]? = some (.cells #[.int .i64 (c0 + sumH (·.f0) p (faces.take k)), .int .i64 (c1 + sumH (·.f1) p (faces.take k)), .int .i64 (c2 + sumH (·.f2) p (faces.take k))] 29 (0, 0))) (fun i _ => n - (intOf i).toNat)
        case atStart => exact ⟨0, by omega, rfl, HBT.out, by simpa [sumH] using HTC.out⟩
        case round =>
          obtain ⟨k, hk, rfl, hbr, hTr⟩ := hrel
          have HBR := Lib.hid hbr
          have hsr := hbr.size
          have n0 := cell_below hbr m0
          have n1 := cell_below hbr m1
          by_cases hlt : k < n
          · have hk1 : (k : Int) < (n : Int) := by omega
            have hwr : w.heap.size < wr.heap.size := by omega
            have f0 := HF0.out k
            have f1 := HF1.out k
            have f2 := HF2.out k
            have hlf := HLF.out k
            have hz := HMF.out k hlt
            have HT1 := Lib.hid (HTF.out k hlt)
            have HZ := Lib.hid (HFC2.out _ hz)
            have hfi := HFI.out _ hz
            obtain ⟨fb, fo, rfl, hfb, hfc⟩ := HSA.out.below hbr (by omega)
            have g0 : wr.cell? ⟨fb, fo + k, none⟩ = some (.int .i64 (faces.getD k 0)) := by have := hfc k hlt 0 (by omega); rw [Nat.mul_one, Nat.add_zero] at this; exact this
            have t0 := cell_at (j := 0) hTr rfl
            have t1 := cell_at (j := 1) hTr rfl
            have t2 := cell_at (j := 2) hTr rfl
            have q0 := frozen_at (j := 0) hTr
            have q1 := frozen_at (j := 1) hTr
            have q2 := frozen_at (j := 2) hTr
            have hTl := (Array.getElem?_eq_some_iff.1 hTr).1
            have HTR := Lib.hid hTr
            have e1 : (((faces.getD k 0).toNat : Nat) : Int) = faces.getD k 0 := by omega
            rw [fpV_D, e1] at HZ
            clear hfc hTr hz hbr e1
            generalize faces.getD k 0 = z at *
            have HN0 := Lib.hid (show sumH (·.f0) p (faces.take (k + 1)) = sumH (·.f0) p (faces.take k) + (fpD p z).f0 from by rw [HT1.out, sumH_snoc])
            have HN1 := Lib.hid (show sumH (·.f1) p (faces.take (k + 1)) = sumH (·.f1) p (faces.take k) + (fpD p z).f1 from by rw [HT1.out, sumH_snoc])
            have HN2 := Lib.hid (show sumH (·.f2) p (faces.take (k + 1)) = sumH (·.f2) p (faces.take k) + (fpD p z).f2 from by rw [HT1.out, sumH_snoc])
            generalize sumH (·.f0) p (faces.take k) = S0 at *
            generalize sumH (·.f1) p (faces.take k) = S1 at *
            generalize sumH (·.f2) p (faces.take k) = S2 at *
            generalize (faces.take k).length = tl at *
            generalize fpD p z = u at *
            obtain ⟨u0, u1, u2⟩ := u
            dsimp only at HN0 HN1 HN2 HZ hfi
            have j0 : In64 (c0 + S0 + u0) := ⟨by omega, by omega⟩
            have j1 : In64 (c1 + S1 + u1) := ⟨by omega, by omega⟩
            have j2 : In64 (c2 + S2 + u2) := ⟨by omega, by omega⟩
            clear f0 f1 f2 hfi HT1
            go_wp2
            ((first | refine region_qt2 5 (by kernel_rfl) (by kernel_rfl) ?_ | refine region_qt 5 (by kernel_rfl) (by kernel_rfl) ?_); simp only [List.take_succ_cons, List.take_zero, List.drop_succ_cons, List.drop_zero])
            repeat (quiet_step (fail))
            (refine wpQuiet_step (fun K hK => ?_); go_simp; refine ⟨_, fun zt => ext_below (HZ.out _ (Below.trans HBR.out (by repeat (first | exact Below.refl _ _ | refine Below.drew ?_ | refine Below.alloc ?_ (by first | exact Nat.le_refl _ | (simp; done) | (simp; omega) | omega) _ | refine Below.more ?_ (by first | exact Nat.le_refl _ | (simp; done) | (simp; omega) | omega) _ _ | refine Below.setCell ?_ (by first | exact Nat.le_refl _ | (simp; done) | (simp; omega) | omega) _ | assumption)))), hK _ ?_⟩; clear hK K)
            repeat (quiet_step (fail))
            (refine wpQuiet_step (fun K hK => ?_); go_simp; refine ⟨_, fun zt => ext_below (impl_plus _ _ _ u0 u1 u2 _ j0 j1 j2), hK _ ?_⟩; clear hK K)
            repeat (quiet_step (fail))
            (refine wpQuiet_nil ?_; intro X nX)
            go_wp2
            refine ⟨⟨k + 1, by omega, by first | rfl | go_num, ?_, ?_⟩, by simp only [intOf]; omega⟩
            · exact Below.trans HBR.out (by repeat (first | exact Below.refl _ _ | refine Below.drew ?_ | refine Below.alloc ?_ (by first | exact Nat.le_refl _ | (simp; done) | (simp; omega) | omega) _ | refine Below.more ?_ (by first | exact Nat.le_refl _ | (simp; done) | (simp; omega) | omega) _ _ | refine Below.setCell ?_ (by first | exact Nat.le_refl _ | (simp; done) | (simp; omega) | omega) _ | assumption))
            · rw [HN0.out, HN1.out, HN2.out, ← Int.add_assoc, ← Int.add_assoc, ← Int.add_assoc]
              exact (put3_more HTR.out _ _ _ X nX).1
          · have hk1 : ¬ (k : Int) < (n : Int) := by omega
            have HK := Lib.hid (show faces.take k = faces from by rw [show k = n from by omega]; exact HAF.out)
            have f0 := HF0.out k
            have f1 := HF1.out k
            have f2 := HF2.out k
            rw [HK.out] at hTr f0 f1 f2
            rw [HFN.out] at f0 f1 f2
            have l0 : -3968000000 ≤ c0 + sumH (·.f0) p faces ∧ c0 + sumH (·.f0) p faces ≤ 3968000000 := by omega
            have l1 : -3968000000 ≤ c1 + sumH (·.f1) p faces ∧ c1 + sumH (·.f1) p faces ≤ 3968000000 := by omega
            have l2 : -3968000000 ≤ c2 + sumH (·.f2) p faces ∧ c2 + sumH (·.f2) p faces ≤ 3968000000 := by omega
            clear HK f0 f1 f2 HF0 HF1 HF2 HTF HMF HLF HFC2 HSA s0 s1 s2 HTC HBT
            generalize c0 + sumH (·.f0) p faces = h0 at *
            generalize c1 + sumH (·.f1) p faces = h1 at *
            generalize c2 + sumH (·.f2) p faces = h2 at *
            have hTl := (Array.getElem?_eq_some_iff.1 hTr).1
            have hwr : w.heap.size < wr.heap.size := by omega
            have HTR := Lib.hid hTr
            clear hTr hbr
            go_wp2_with (first
              | (go_at_call 21
                 refine (HAL2.out _ HBR.out).mono ?_
                 rintro e wd ⟨u, rfl, ho, hbd⟩
                 have HD := Lib.hid (own_base ho (Nat.zero_le _))
                 have HBD := Lib.hid hbd
                 have d0 := cell_below hbd n0
                 have d1 := cell_below hbd n1
                 clear ho hbd)
              | (go_at_call 45
                 refine (HIN.out _ _ HD.out).mono ?_
                 rintro e wn ⟨na, nc, rfl, ho, hbn⟩
                 have HO := Lib.hid ho
                 have HBN := Lib.hid hbn
                 clear ho hbn))
            have hsd := HBD.out.size
            have hsn := HBN.out.size
            have HT2 := Lib.hid ((HBN.out.block T (by omega)).trans ((HBD.out.block T hTl).trans HTR.out))
            have HB2 := Lib.hid (HBR.out.trans ((HBD.out.trans (HBN.out.mono hsd)).mono hsr))
            have hTn : T < wn.heap.size := by omega
            have hxn : wx.heap.size ≤ wn.heap.size := by omega
            have HON := Lib.hid (HO.out.wide (lo' := T + 1) (by omega) (Nat.le_refl _))
            clear HD HBD HBN HO HTR HBR d0 d1 n0 n1 hTl hwr hsd hsn hsr hlt hk1
            generalize hNL : N.length = nl at *
            have HNL := Lib.hid hNL
            clear hNL
            go_loopw [84] (fun i wr => ∃ (k : Nat), k ≤ nl ∧ i = .int .i64 k ∧ Chg T (T + 1) wn wr ∧ wr.heap[T]? = some (.cells #[.int .i64 (h0 + (x0 * (k : Int) + sumG (·.f0) p (N.take k))), .int .i64 (h1 + (x1 * (k : Int) + sumG (·.f1) p (N.take k))), .int .i64 (h2 + (x2 * (k : Int) + sumG (·.f2) p (N.take k)))] 29 (0, 0))) (fun i _ => nl - (intOf i).toNat)
            case atStart => exact ⟨0, by omega, rfl, Chg.refl _ _ _, by simpa [sumG] using HT2.out⟩
            case round =>
              obtain ⟨k, hk, rfl, hcr, hTr⟩ := hrel
              have hbr := Below.chg HB2.out hcr hT hxn
              have HBR := Lib.hid hbr
              have hsr := hbr.size
              have n0 := cell_below hbr m0
              have n1 := cell_below hbr m1
              have t0 := cell_at (j := 0) hTr rfl
              have t1 := cell_at (j := 1) hTr rfl
              have t2 := cell_at (j := 2) hTr rfl
              have q0 := frozen_at (j := 0) hTr
              have q1 := frozen_at (j := 1) hTr
              have q2 := frozen_at (j := 2) hTr
              have hTl := (Array.getElem?_eq_some_iff.1 hTr).1
              have hwr : w.heap.size < wr.heap.size := by omega
              have hBr : B < wr.heap.size := by omega
              have hbr' : b < wr.heap.size := by omega
              have HTR := Lib.hid hTr
              have HCR := Lib.hid hcr
              have HSN := Lib.hid (HON.out.chg hcr (.inr (Nat.le_refl _))).sl
              have B0 := cell_below hbr b0
              have B1 := cell_below hbr b1
              have B2 := cell_below hbr b2
              have f0 := HG0.out k
              have f1 := HG1.out k
              have f2 := HG2.out k
              have hlf := HLN.out k
              have y0 := mul_bd (x := x0) (k := (k : Int)) (A := 1000000) (B := 512) ⟨o00, o01⟩ (by omega)
              have y1 := mul_bd (x := x1) (k := (k : Int)) (A := 1000000) (B := 512) ⟨o10, o11⟩ (by omega)
              have y2 := mul_bd (x := x2) (k := (k : Int)) (A := 1000000) (B := 512) ⟨o20, o21⟩ (by omega)
              clear hTr hcr
              by_cases hlt : k < nl
              · have hk1 : (k : Int) < (nl : Int) := by omega
                have hz := HMN.out k hlt
                have HT1 := Lib.hid (HTN.out k hlt)
                obtain ⟨fb, fo, rfl, hfb, hfc⟩ := HSN.out (by omega)
                have g0 : wr.cell? ⟨fb, fo + k, none⟩ = some (.int .i64 (N.getD k 0)) := by have := hfc k hlt 0 (by omega); rw [Nat.mul_one, Nat.add_zero] at this; exact this
                clear hfc hbr
                generalize N.getD k 0 = z at *
                have hvi := HVI.out z hz
                obtain ⟨z, rfl⟩ := Int.eq_ofNat_of_zero_le hz.1
                have hzn := hz.2
                obtain ⟨a0, a1, a2⟩ := HVX2.out z (by omega)
                have A0 := cell_below HBR.out a0
                have A1 := cell_below HBR.out a1
                have A2 := cell_below HBR.out a2
                have HN0 := Lib.hid (show sumG (·.f0) p (N.take (k + 1)) = sumG (·.f0) p (N.take k) + (vtx p z).f0 from by rw [HT1.out, sumG_snoc])
                have HN1 := Lib.hid (show sumG (·.f1) p (N.take (k + 1)) = sumG (·.f1) p (N.take k) + (vtx p z).f1 from by rw [HT1.out, sumG_snoc])
                have HN2 := Lib.hid (show sumG (·.f2) p (N.take (k + 1)) = sumG (·.f2) p (N.take k) + (vtx p z).f2 from by rw [HT1.out, sumG_snoc])
                have HM : ∀ x : Int, x * ((k + 1 : Nat) : Int) = x * (k : Int) + x := fun x => by rw [Int.natCast_add, Int.mul_add]; simp
                have HM0 := Lib.hid (HM x0)
                have HM1 := Lib.hid (HM x1)
                have HM2 := Lib.hid (HM x2)
                clear HM
                clear hz a0 a1 a2 HT1 b0 b1 b2
                generalize sumG (·.f0) p (N.take k) = S0 at *
                generalize sumG (·.f1) p (N.take k) = S1 at *
                generalize sumG (·.f2) p (N.take k) = S2 at *
                generalize (N.take k).length = tl at *
                generalize x0 * (k : Int) = X0 at *
                generalize x1 * (k : Int) = X1 at *
                generalize x2 * (k : Int) = X2 at *
                generalize vtx p z = u at *
                obtain ⟨u0, u1, u2⟩ := u
                dsimp only at HN0 HN1 HN2 hvi A0 A1 A2
                have i0 : In64 (h0 + (X0 + S0) + x0) := ⟨by omega, by omega⟩
                have i1 : In64 (h1 + (X1 + S1) + x1) := ⟨by omega, by omega⟩
                have i2 : In64 (h2 + (X2 + S2) + x2) := ⟨by omega, by omega⟩
                have j0 : In64 (h0 + (X0 + S0) + x0 + u0) := ⟨by omega, by omega⟩
                have j1 : In64 (h1 + (X1 + S1) + x1 + u1) := ⟨by omega, by omega⟩
                have j2 : In64 (h2 + (X2 + S2) + x2 + u2) := ⟨by omega, by omega⟩
                clear f0 f1 f2 hvi y0 y1 y2
                go_wp2
                ((first | refine region_qt2 9 (by kernel_rfl) (by kernel_rfl) ?_ | refine region_qt 9 (by kernel_rfl) (by kernel_rfl) ?_); simp only [List.take_succ_cons, List.take_zero, List.drop_succ_cons, List.drop_zero])
                repeat (quiet_step (fail))
                (refine wpQuiet_step (fun K hK => ?_); go_simp; refine ⟨_, fun zt => ext_below (impl_plus _ _ _ x0 x1 x2 _ i0 i1 i2), hK _ ?_⟩; clear hK K)
                repeat (quiet_step (fail))
                (refine wpQuiet_step (fun K hK => ?_); go_simp; refine ⟨_, fun zt => ext_below (impl_plus _ _ _ u0 u1 u2 _ j0 j1 j2), hK _ ?_⟩; clear hK K)
                repeat (quiet_step (fail))
                (refine wpQuiet_nil ?_; intro X nX)
                go_wp2
                refine ⟨⟨k + 1, by omega, by first | rfl | go_num, ?_, ?_⟩, by simp only [intOf]; omega⟩
                · exact HCR.out.trans (put3_more HTR.out _ _ _ X nX).2
                · rw [HN0.out, HN1.out, HN2.out]
                  rw [HM0.out, HM1.out, HM2.out]
                  have e : ∀ a b c d e : Int, a + (b + c + (d + e)) = a + (b + d) + c + e := fun a b c d e => by omega
                  rw [e, e, e]
                  exact (put3_more HTR.out _ _ _ X nX).1
              · have hk1 : ¬ (k : Int) < (nl : Int) := by omega
                have HKN := Lib.hid (show k = nl from by omega)
                have HK := Lib.hid (show N.take k = N from by rw [HKN.out]; exact HAN.out)
                rw [HK.out] at t0 t1 t2 f0 f1 f2
                rw [HKN.out] at t0 t1 t2 y0 y1 y2
                rw [HNL.out] at f0 f1 f2
                have i0 : In64 (h0 + (x0 * (nl : Int) + sumG (·.f0) p N)) := ⟨by omega, by omega⟩
                have i1 : In64 (h1 + (x1 * (nl : Int) + sumG (·.f1) p N)) := ⟨by omega, by omega⟩
                have i2 : In64 (h2 + (x2 * (nl : Int) + sumG (·.f2) p N)) := ⟨by omega, by omega⟩
                have R0 := cell_below HBR.out r0
                have R1 := cell_below HBR.out r1
                have R2 := cell_below HBR.out r2
                have Z0 := frozen_below HBR.out r0 z0
                have Z1 := frozen_below HBR.out r1 z1
                have Z2 := frozen_below HBR.out r2 z2
                have hwr1 : w.heap.size + 1 < wr.heap.size := by omega
                clear f0 f1 f2 y0 y1 y2 r0 r1 r2 z0 z1 z2 b0 b1 b2 m0 m1 HTR HK q0 q1 q2
                generalize h0 + (x0 * (nl : Int) + sumG (·.f0) p N) = v0 at *
                generalize h1 + (x1 * (nl : Int) + sumG (·.f1) p N) = v1 at *
                generalize h2 + (x2 * (nl : Int) + sumG (·.f2) p N) = v2 at *
                go_wp2_with (go_at_call 48; refine (HOV.out _ _ _ _ i0 i1 i2).mono ?_; rintro e wn ⟨rfl, hbn⟩; obtain ⟨X, nX, rfl⟩ := Below.ext hbn; clear hbn)
                exact bodyPost_ret (v := vecV _ _ _) (by simp [results, Try.results22, go_sem, R0, R1, R2, hwr1]) rfl ⟨congrArg Ending.returned HVE.out.symm, Below.trans (HBX.out.trans (HBR.out.mono HBX.out.size)) (by repeat (first | exact Below.refl _ _ | refine Below.drew ?_ | refine Below.alloc ?_ (by first | exact Nat.le_refl _ | (simp; done) | (simp; omega) | omega) _ | refine Below.more ?_ (by first | exact Nat.le_refl _ | (simp; done) | (simp; omega) | omega) _ _ | refine Below.setCell ?_ (by first | exact Nat.le_refl _ | (simp; done) | (simp; omega) | omega) _ | assumption))⟩
end Go.Proofs.Ytpfmcobkfofbjaa
