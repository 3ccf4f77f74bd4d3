/- Contract of the implementation's Subdivide where it gives a mesh. -/
import Derived.Test.YtpfmcobkfofbjaaSubK
import Derived.Test.YtpfmcobkfofbjaaFresh
import Derived.Deep.DeepCutAuto
namespace Go.Proofs.Ytpfmcobkfofbjaa
open Go Go.RowKit
theorem wfE_und2 {p : Int × Int} (h : wfE p) : wfE (und p) := by
  obtain ⟨x, y⟩ := p
  obtain ⟨h1, h2⟩ := h
  unfold und wfE
  simp only [Int.min_def, Int.max_def] at *
  split <;> exact ⟨by assumption, by assumption⟩
theorem wfE_edges {p : MeshD} {x : Int × Int} (h : x ∈ edgesD p) : wfE x := by
  unfold edgesD at h
  split at h
  · obtain ⟨i, j, hi, hj, rfl⟩ := mem_edgesL h
    have hok := meshOkB_true.1 (by assumption)
    exact wfE_und2 (wfE_step (hok.2.2.2.1 i hi) (by have := hok.1; omega) hj)
  · cases h
set_option maxRecDepth 100000 in
set_option maxHeartbeats 8000000 in
theorem impl_Subdivide_c (v : Value) (p : MeshD) (w : World) (hr : MeshR w v p) (hs : MeshSz 1048576 p) (hok : subOk p) :
    Calls Try.prog 7 #[v] w (SubEG p w) := by
  have hm := hok.1
  have hmB : meshOkB p = true := meshOkB_true.2 hm
  have HVM := Lib.hid (fun W (h : Below w.heap.size w W) => hmB ▸ impl_IsValidMesh_c _ p W (hr.below h) hs)
  have HTB := Lib.hid (fun W (h : Below w.heap.size w W) => edgeTable_c v p W (hr.below h) hs hm)
  have HAL := Lib.hid (fun W (h : Below w.heap.size w W) => impl_all_c v p W (hr.below h) hs hm)
  have HFP := Lib.hid (fun (z : Nat) (hz : z < p.nF) W (h : Below w.heap.size w W) => (show fpV p.verts (faceAt p.faces z) = vecV (fpD p (z : Int)).f0 (fpD p (z : Int)).f1 (fpD p (z : Int)).f2 from rfl) ▸ facePoint_c v p z W (hr.below h) hs hm hz)
  have HVP := Lib.hid (fun (z : Nat) (hz : z < p.nV) W (h : Below w.heap.size w W) => (vpE_D p z) ▸ impl_vertexPoint_c v p (z : Int) W (hr.below h) hs hm ⟨by omega, by omega⟩)
  have HEP := Lib.hid (fun (e : Int × Int) (he : e ∈ edgesL p.faces p.nF) W (h : Below w.heap.size w W) fa fc hf => epV_D p e ▸ impl_edgePoint_c v p e.1 e.2 fa fc (hitsTo p.faces e p.nF) W (hr.below h) hs (onEdge_edge hmB he) hf)
  obtain ⟨a, c, a', c', rfl, h1, h2⟩ := hr
  obtain ⟨FA, FK, h2a, h2b, _⟩ := h2
  have HSA := Lib.hid h2a
  have HSB := Lib.hid h2b
  have HF4 := Lib.hid (fun i (hi : i < p.nF) => (hok.1.2.2.2.1 i hi).1)
  clear h2a h2b
  have hn1 := hok.2.1
  have hn2 := hok.2.2
  have hf16 : ¬ (16 : Int) < (p.nF : Int) := by omega
  have HWF := Lib.hid (fun (e : Int × Int) (he : e ∈ edgesL p.faces p.nF) => (show wfE e from wfE_edges ((show edgesD p = edgesL p.faces p.nF by rw [edgesD, if_pos hmB]).symm ▸ he)))
  have HND := Lib.hid (sortedE_nodup (edges_ok p.faces p.nF).1)
  generalize hL : edgesL p.faces p.nF = L at *
  generalize hKS : keysTo p.faces p.nF = KS at *
  have HLL := Lib.hid hL
  have HKS := Lib.hid hKS
  clear hL hKS hmB hm
  have hs80 : ¬ (80 : Int) < ((p.nV : Int) + (L.length : Int)) + (p.nF : Int) := by omega
  have hmm := @run_makeMap Try.prog
  go_enter Try.func7, Try.ntmps7
  go_upto_region 3 with (go_at_call 10; refine (HVM.out _ (by repeat (first | exact Below.refl _ _ | refine Below.drew ?_ | refine Below.alloc ?_ (by first | exact Nat.le_refl _ | (simp; done) | (simp; omega) | omega) _ | refine Below.more ?_ (by first | exact Nat.le_refl _ | (simp; done) | (simp; omega) | omega) _ _ | refine Below.setCell ?_ (by first | exact Nat.le_refl _ | (simp; done) | (simp; omega) | omega) _ | assumption))).mono ?_; rintro e W0 ⟨rfl, hb0⟩; have HB0 := Lib.hid (Below.trans (show Below w.heap.size w _ from (by repeat (first | exact Below.refl _ _ | refine Below.drew ?_ | refine Below.alloc ?_ (by first | exact Nat.le_refl _ | (simp; done) | (simp; omega) | omega) _ | refine Below.more ?_ (by first | exact Nat.le_refl _ | (simp; done) | (simp; omega) | omega) _ _ | refine Below.setCell ?_ (by first | exact Nat.le_refl _ | (simp; done) | (simp; omega) | omega) _ | assumption))) (hb0.mono (by simp; try omega))); have HM0 := Lib.hid (show MbS w.heap.size (.slice a p.nV c) (.slice a' p.nF c') W0 from MbS.below ⟨by simp [go_sem], by simp [go_sem], by exact heap_at_new (by simp)⟩ hb0); clear hb0; obtain ⟨p1, p2, p3⟩ := HM0.out)
  have hws := HB0.out.size
  have hp1 := World.block_lt_of_cell? _ _ p1
  have HTB2 := Lib.hid (show ∀ W, MbS w.heap.size (.slice a p.nV c) (.slice a' p.nF c') W → Below W0.heap.size W0 W → Calls Try.prog 20 #[.agg #[.slice a p.nV c, .slice a' p.nF c']] W fun e w2 => ∃ b F, e = .returned (.map (some b)) ∧ MbS w.heap.size (.slice a p.nV c) (.slice a' p.nF c') w2 ∧ Groups w2 W0.heap.size b (4 * p.nF) KS F (fun e => hitsTo p.faces e p.nF) ∧ Below W.heap.size W w2 ∧ Below W0.heap.size W0 w2 from fun W hq hb => (HTB.out W (HB0.out.trans (hb.mono HB0.out.size))).mono fun e w2 h => by
    obtain ⟨b, F, e1, hg, _, hb1⟩ := h
    exact ⟨b, F, e1, hq.below hb1, hg.low (by have := hb.size; omega), hb1, hb.trans (hb1.mono hb.size)⟩)
  have HAL2 := Lib.hid (show ∀ W, MbS w.heap.size (.slice a p.nV c) (.slice a' p.nF c') W → Below W0.heap.size W0 W → Calls Try.prog 21 #[.agg #[.slice a p.nV c, .slice a' p.nF c']] W fun e w2 => ∃ u, e = .returned u ∧ MbS w.heap.size (.slice a p.nV c) (.slice a' p.nF c') w2 ∧ w2.ownsRow W0.heap.size 55 2 u L.length (edgeVals L) ∧ Below W.heap.size W w2 ∧ Below W0.heap.size W0 w2 from fun W hq hb => (HAL.out W (HB0.out.trans (hb.mono HB0.out.size))).mono fun e w2 h => by
    obtain ⟨u, e1, ho, hb1⟩ := h
    exact ⟨u, e1, hq.below hb1, own_base ho (by have := hb.size; omega), hb1, hb.trans (hb1.mono hb.size)⟩)
  go_cut [4, 5] (fun s4 s5 wx => ∃ (b : Nat) (F : Int × Int → Value) (u : Value), s4 = .map (some b) ∧ s5 = u ∧ Groups wx W0.heap.size b (4 * p.nF) KS F (fun e => hitsTo p.faces e p.nF) ∧ wx.ownsRow W0.heap.size 55 2 u L.length (edgeVals L) ∧ Below W0.heap.size W0 wx)
  case first =>
    go_region_held3 (MbS w.heap.size (.slice a p.nV c) (.slice a' p.nF c')) (first | assumption | exact ⟨p1, p2, p3⟩ | exact HM0.out.below (by repeat (first | exact Below.refl _ _ | refine Below.drew ?_ | refine Below.alloc ?_ (by first | exact Nat.le_refl _ | (simp; done) | (simp; omega) | omega) _ | refine Below.more ?_ (by first | exact Nat.le_refl _ | (simp; done) | (simp; omega) | omega) _ _ | refine Below.setCell ?_ (by first | exact Nat.le_refl _ | (simp; done) | (simp; omega) | omega) _ | assumption))) (first
      | (go_at_call 20
         refine (HTB2.out _ ?_ ?_).mono ?_
         · (first | assumption | exact ⟨p1, p2, p3⟩ | exact HM0.out.below (by repeat (first | exact Below.refl _ _ | refine Below.drew ?_ | refine Below.alloc ?_ (by first | exact Nat.le_refl _ | (simp; done) | (simp; omega) | omega) _ | refine Below.more ?_ (by first | exact Nat.le_refl _ | (simp; done) | (simp; omega) | omega) _ _ | refine Below.setCell ?_ (by first | exact Nat.le_refl _ | (simp; done) | (simp; omega) | omega) _ | assumption)))
         · first | assumption | exact (by repeat (first | exact Below.refl _ _ | refine Below.drew ?_ | refine Below.alloc ?_ (by first | exact Nat.le_refl _ | (simp; done) | (simp; omega) | omega) _ | refine Below.more ?_ (by first | exact Nat.le_refl _ | (simp; done) | (simp; omega) | omega) _ _ | refine Below.setCell ?_ (by first | exact Nat.le_refl _ | (simp; done) | (simp; omega) | omega) _ | assumption))
         rintro e wa ⟨b, F, rfl, q, hg, hb1, qa⟩
         have HG := Lib.hid hg
         have qs := hb1.size
         (try simp at qs)
         obtain ⟨p1, p2, p3⟩ := q
         clear hg)
      | (go_at_call 21
         refine (HAL2.out _ ?_ ?_).mono ?_
         · (first | assumption | exact ⟨p1, p2, p3⟩ | exact HM0.out.below (by repeat (first | exact Below.refl _ _ | refine Below.drew ?_ | refine Below.alloc ?_ (by first | exact Nat.le_refl _ | (simp; done) | (simp; omega) | omega) _ | refine Below.more ?_ (by first | exact Nat.le_refl _ | (simp; done) | (simp; omega) | omega) _ _ | refine Below.setCell ?_ (by first | exact Nat.le_refl _ | (simp; done) | (simp; omega) | omega) _ | assumption)))
         · first | assumption | exact (by repeat (first | exact Below.refl _ _ | refine Below.drew ?_ | refine Below.alloc ?_ (by first | exact Nat.le_refl _ | (simp; done) | (simp; omega) | omega) _ | refine Below.more ?_ (by first | exact Nat.le_refl _ | (simp; done) | (simp; omega) | omega) _ _ | refine Below.setCell ?_ (by first | exact Nat.le_refl _ | (simp; done) | (simp; omega) | omega) _ | assumption))
         rintro e wb ⟨u, rfl, q, ho, hb2, qb⟩
         have HO := Lib.hid ho
         have qt := hb2.size
         (try simp at qt)
         obtain ⟨p1, p2, p3⟩ := q
         clear ho))
    all_goals (go_wp2_with fail; go_meet)
    all_goals first
      | exact ⟨_, _, _, rfl, rfl, HG.out.kept hb2, HO.out, qb⟩
      | exact ⟨_, _, _, rfl, rfl, HG.out, own_kept HO.out hb1, qa⟩
  case rest =>
    rename World => wx
    obtain ⟨b, F, u, rfl, rfl, hg, ho, hbx⟩ := hcut
    obtain ⟨ea, ec, rfl, hox⟩ := ow_of_ownsRow ho (flat_get (s := 2) (n := L.length) (C := edgeAt L) (fun _ _ => rfl))
    have HX2 := Lib.hid hox.sl
    have HG := Lib.hid hg
    have HO := Lib.hid ho
    have HBX := Lib.hid hbx
    obtain ⟨n0, n1, n2⟩ := HM0.out.below hbx
    have hsx := hbx.size
    have hwx := World.block_lt_of_cell? _ _ n0
    clear hg ho hbx p1 p2 p3
    have k1 : IntKind.i64.wrap ((p.nV : Int) + (L.length : Int)) = (p.nV : Int) + (L.length : Int) := IntWalk.i64_in _ (by omega)
    have k2 : IntKind.i64.wrap (((p.nV : Int) + (L.length : Int)) + (p.nF : Int)) = ((p.nV : Int) + (L.length : Int)) + (p.nF : Int) := IntWalk.i64_in _ (by omega)
    go_upto_region 7 with fail
    go_cut [7, 8] (fun s7 s8 wy => ∃ T bP : Nat, s7 = .pointer (some ⟨T, 0, none⟩) ∧ s8 = .map (some bP) ∧ wx.heap.size ≤ T ∧ wx.heap.size ≤ bP ∧ T ≠ bP ∧ wy.heap[T]? = some (.cells #[.slice none 0 0, .slice none 0 0] 26 (0, 0)) ∧ MapP wy bP 0 [] (fun _ => .int .i64 0) ∧ Below wx.heap.size wx wy)
    case first =>
      go_wp2
      go_meet
      exact ⟨_, _, rfl, rfl, by simp, by simp, by simp, by exact heap_at_new (by simp), (MapP.made wx).kept (by exact (by repeat (first | exact Below.refl _ _ | refine Below.drew ?_ | refine Below.alloc ?_ (by first | exact Nat.le_refl _ | (simp; done) | (simp; omega) | omega) _ | refine Below.more ?_ (by first | exact Nat.le_refl _ | (simp; done) | (simp; omega) | omega) _ _ | refine Below.setCell ?_ (by first | exact Nat.le_refl _ | (simp; done) | (simp; omega) | omega) _ | assumption))), (by repeat (first | exact Below.refl _ _ | refine Below.drew ?_ | refine Below.alloc ?_ (by first | exact Nat.le_refl _ | (simp; done) | (simp; omega) | omega) _ | refine Below.more ?_ (by first | exact Nat.le_refl _ | (simp; done) | (simp; omega) | omega) _ _ | refine Below.setCell ?_ (by first | exact Nat.le_refl _ | (simp; done) | (simp; omega) | omega) _ | assumption))⟩
    case rest =>
      rename World => wy
      obtain ⟨T, bP, rfl, rfl, hT, hbP, hTP, hTc, hmp, hby⟩ := hcut
      have HMP := Lib.hid hmp
      have HTC := Lib.hid hTc
      have HBQ := Lib.hid (HB0.out.trans (HBX.out.mono hws))
      have HBY := Lib.hid hby
      have N0 := cell_below hby n0
      have N1 := cell_below hby n1
      have hsy := hby.size
      have hwy := World.block_lt_of_cell? _ _ N0
      have hTl := (Array.getElem?_eq_some_iff.1 hTc).1
      have HLS := Lib.hid (show ∀ k, ((List.range (k + 1)).map fun z : Nat => vpD p (z : Int)) = ((List.range k).map fun z : Nat => vpD p (z : Int)) ++ [vpD p (k : Int)] from fun k => by rw [List.range_succ, List.map_append]; rfl)
      have HLN := Lib.hid (show ∀ k, ((List.range k).map fun z : Nat => vpD p (z : Int)).length = k from fun k => by simp)
      clear hmp hTc hby
      go_wp2
      go_loopw [51] (fun i wr => ∃ (k : Nat) (vs : Value), k ≤ p.nV ∧ i = .int .i64 k ∧ Below wx.heap.size wx wr ∧ wr.heap[T]? = some (.cells #[vs, .slice none 0 0] 26 (0, 0)) ∧ wr.ownsRow wx.heap.size 29 3 vs k (vecVals ((List.range k).map fun z : Nat => vpD p (z : Int))) ∧ MapP wr bP 0 [] (fun _ => .int .i64 0)) (fun i _ => p.nV - (intOf i).toNat)
      case atStart => exact ⟨0, _, by omega, rfl, HBY.out, HTC.out, World.ownsRow_nil _ _ _ _, HMP.out⟩
      case round =>
        clear HBY HTC HMP
        obtain ⟨k, vs, hk, rfl, hbr, hTr, hown, hmp⟩ := hrel
        have HOWN := Lib.hid hown
        have HTR := Lib.hid hTr
        have HMP := Lib.hid hmp
        have hTl := (Array.getElem?_eq_some_iff.1 hTr).1
        clear hown hTr hmp
        by_cases hlt : k < p.nV
        · have hk1 : (k : Int) < (p.nV : Int) := by omega
          have HVK := Lib.hid (HVP.out k hlt)
          have HL1 := Lib.hid (HLS.out k)
          generalize ((List.range k).map fun z : Nat => vpD p (z : Int)) = Lk at *
          generalize vpD p (k : Int) = u at *
          obtain ⟨u0, u1, u2⟩ := u
          dsimp only at HVK
          obtain ⟨i0, hi, hz0, hz1, hz2⟩ := info_parts info_VecA
          obtain ⟨X0, d0, rfl⟩ := Below.ext hbr
          go_wp2
          refine region_app4 [0, 1, 2, 3, 4] [5, 6, 7, 8] 8 26 [vs, .slice none 0 0] 0 29 3 vs k 1 _ [.int .i64 u0, .int .i64 u1, .int .i64 u2] (places_carried _ _ _ _ T) (by kernel_rfl) (by kernel_rfl) HOWN.out HTR.out HMP.out ?_
          refine headP_step rfl (fun K hK => ?_)
          go_simp
          first
            | refine ⟨_, fun zt ht => rfl, hK _ ?_⟩
            | refine ⟨vs, fun zt ht => (by have c := cell_at (j := 0) ht rfl; simp [c, Result.andThen]), hK _ ?_⟩
            | refine ⟨_, fun zt ht => calls_stays (HVK.out _ (HBQ.out.trans (by repeat (first | exact Below.refl _ _ | refine Below.drew ?_ | refine Below.alloc ?_ (by first | exact Nat.le_refl _ | (simp; done) | (simp; omega) | omega) _ | refine Below.more ?_ (by first | exact Nat.le_refl _ | (simp; done) | (simp; omega) | omega) _ _ | refine Below.setCell ?_ (by first | exact Nat.le_refl _ | (simp; done) | (simp; omega) | omega) _ | assumption)))), hK _ ?_⟩
          clear hK K
          refine headP_step rfl (fun K hK => ?_)
          go_simp
          first
            | refine ⟨_, fun zt ht => rfl, hK _ ?_⟩
            | refine ⟨vs, fun zt ht => (by have c := cell_at (j := 0) ht rfl; simp [c, Result.andThen]), hK _ ?_⟩
            | refine ⟨_, fun zt ht => calls_stays (HVK.out _ (HBQ.out.trans (by repeat (first | exact Below.refl _ _ | refine Below.drew ?_ | refine Below.alloc ?_ (by first | exact Nat.le_refl _ | (simp; done) | (simp; omega) | omega) _ | refine Below.more ?_ (by first | exact Nat.le_refl _ | (simp; done) | (simp; omega) | omega) _ _ | refine Below.setCell ?_ (by first | exact Nat.le_refl _ | (simp; done) | (simp; omega) | omega) _ | assumption)))), hK _ ?_⟩
          clear hK K
          refine headP_step rfl (fun K hK => ?_)
          go_simp
          first
            | refine ⟨_, fun zt ht => rfl, hK _ ?_⟩
            | refine ⟨vs, fun zt ht => (by have c := cell_at (j := 0) ht rfl; simp [c, Result.andThen]), hK _ ?_⟩
            | refine ⟨_, fun zt ht => calls_stays (HVK.out _ (HBQ.out.trans (by repeat (first | exact Below.refl _ _ | refine Below.drew ?_ | refine Below.alloc ?_ (by first | exact Nat.le_refl _ | (simp; done) | (simp; omega) | omega) _ | refine Below.more ?_ (by first | exact Nat.le_refl _ | (simp; done) | (simp; omega) | omega) _ _ | refine Below.setCell ?_ (by first | exact Nat.le_refl _ | (simp; done) | (simp; omega) | omega) _ | assumption)))), hK _ ?_⟩
          clear hK K
          refine headP_step rfl (fun K hK => ?_)
          go_simp
          first
            | refine ⟨_, fun zt ht => rfl, hK _ ?_⟩
            | refine ⟨vs, fun zt ht => (by have c := cell_at (j := 0) ht rfl; simp [c, Result.andThen]), hK _ ?_⟩
            | refine ⟨_, fun zt ht => calls_stays (HVK.out _ (HBQ.out.trans (by repeat (first | exact Below.refl _ _ | refine Below.drew ?_ | refine Below.alloc ?_ (by first | exact Nat.le_refl _ | (simp; done) | (simp; omega) | omega) _ | refine Below.more ?_ (by first | exact Nat.le_refl _ | (simp; done) | (simp; omega) | omega) _ _ | refine Below.setCell ?_ (by first | exact Nat.le_refl _ | (simp; done) | (simp; omega) | omega) _ | assumption)))), hK _ ?_⟩
          clear hK K
          refine headP_step rfl (fun K hK => ?_)
          go_simp
          first
            | refine ⟨_, fun zt ht => rfl, hK _ ?_⟩
            | refine ⟨vs, fun zt ht => (by have c := cell_at (j := 0) ht rfl; simp [c, Result.andThen]), hK _ ?_⟩
            | refine ⟨_, fun zt ht => calls_stays (HVK.out _ (HBQ.out.trans (by repeat (first | exact Below.refl _ _ | refine Below.drew ?_ | refine Below.alloc ?_ (by first | exact Nat.le_refl _ | (simp; done) | (simp; omega) | omega) _ | refine Below.more ?_ (by first | exact Nat.le_refl _ | (simp; done) | (simp; omega) | omega) _ _ | refine Below.setCell ?_ (by first | exact Nat.le_refl _ | (simp; done) | (simp; omega) | omega) _ | assumption)))), hK _ ?_⟩
          clear hK K
          refine headP_nil ?_
          refine tail_app4 (t := 23) (u := .pointer (some ⟨T, 0, none⟩)) (places_carried _ _ _ _ T) hT (by decide) rfl rfl rfl rfl _ _ (by go_simp) (fun w => by go_simp) (fun b => by go_simp) rfl Try.underlying23 hi hz0 hz1 hz2 rfl (by decide) (fun b => by first | rfl | go_simp) (fun b => by first | rfl | go_simp) rfl ?h1 (by simp only [maxLen]; omega) (by omega) (fun b v' => by go_simp) (fun b v' w => by go_simp) (fun b v' => by go_simp) (fun b va vc w hw => ?hS) (fun b v' X1 d1 h1 h2 h3 => ?hr)
          case h1 =>
            intro u hu
            simp only [List.mem_cons, List.not_mem_nil, or_false] at hu
            rcases hu with rfl | rfl | rfl <;> rfl
          case hS =>
            go_simp
          case hr =>
            have HT2 := Lib.hid h2
            have HO2 := Lib.hid h1
            have HM2 := Lib.hid h3
            clear h1 h2 h3
            simp only [Act.put, List.setIfInBounds_toArray]
            go_wp2
            refine ⟨⟨k + 1, v', by omega, by first | rfl | go_num, (by repeat (first | exact Below.refl _ _ | refine Below.drew ?_ | refine Below.alloc ?_ (by first | exact Nat.le_refl _ | (simp; done) | (simp; omega) | omega) _ | refine Below.more ?_ (by first | exact Nat.le_refl _ | (simp; done) | (simp; omega) | omega) _ _ | refine Below.setCell ?_ (by first | exact Nat.le_refl _ | (simp; done) | (simp; omega) | omega) _ | assumption)), by simpa using HT2.out, ?_, HM2.out⟩, by simp only [intOf]; omega⟩
            rw [HL1.out, vecVals_snoc]
            exact HO2.out
        · have hk1 : ¬ (k : Int) < (p.nV : Int) := by omega
          have HOW := Lib.hid (show wr.ownsRow wx.heap.size 29 3 vs (p.nV + 0) (vecVals (((List.range p.nV).map fun z : Nat => vpD p (z : Int)) ++ (L.take 0).map (epD p))) from by have h := HOWN.out; rw [show k = p.nV from by omega] at h; simpa using h)
          have HB2 := Lib.hid hbr
          have HLVN := Lib.hid (HLN.out p.nV)
          have HSV := Lib.hid (show subVs p = (((List.range p.nV).map fun z : Nat => vpD p (z : Int)) ++ L.map (epD p)) ++ (List.range p.nF).map fun z : Nat => fpD p (z : Int) from by unfold subVs; rw [HLL.out])
          generalize ((List.range p.nV).map fun z : Nat => vpD p (z : Int)) = LV at *
          clear HOWN
          go_wp2
          go_loopw [65] (fun i wr => ∃ (k : Nat) (vs : Value) (ks : List (Int × Int)) (P : Int × Int → Value), k ≤ L.length ∧ i = .int .i64 k ∧ Below wx.heap.size wx wr ∧ wr.heap[T]? = some (.cells #[vs, .slice none 0 0] 26 (0, 0)) ∧ wr.ownsRow wx.heap.size 29 3 vs (p.nV + k) (vecVals (LV ++ (L.take k).map (epD p))) ∧ MapP wr bP k ks P ∧ Hid (∀ i, i < k → P (L.getD i (0, 0)) = .int .i64 ((p.nV : Int) + (i : Int)))) (fun i _ => L.length - (intOf i).toNat)
          case atStart => exact ⟨0, _, _, _, by omega, rfl, HB2.out, HTR.out, HOW.out, HMP.out, Lib.hid (fun i h => absurd h (Nat.not_lt_zero _))⟩
          case round =>
            clear HB2 HTR HOW HMP
            obtain ⟨k, vs, ks, P, hk, rfl, hbr, hTr, hown, hmp, HPL⟩ := hrel
            have HOWN := Lib.hid hown
            have HTR := Lib.hid hTr
            have HMP := Lib.hid hmp
            have hTl := (Array.getElem?_eq_some_iff.1 hTr).1
            have hbrs := hbr.size
            clear hown hTr hmp
            by_cases hlt : k < L.length
            · have hk1 : (k : Int) < (L.length : Int) := by omega
              obtain ⟨eb, eo, hee, heb, hec⟩ := HX2.out.below hbr (by omega)
              subst hee
              have d0 : wr.cell? ⟨eb, eo + k * 2, none⟩ = some (.int .i64 (L.getD k (0, 0)).1) := hec k hlt 0 (by omega)
              have d1 : wr.cell? ⟨eb, eo + k * 2 + 1, none⟩ = some (.int .i64 (L.getD k (0, 0)).2) := hec k hlt 1 (by omega)
              clear hec
              have HMEM := Lib.hid (show L.getD k (0, 0) ∈ L by rw [List.getD_eq_getElem?_getD, List.getElem?_eq_getElem hlt]; exact List.getElem_mem hlt)
              have HEK := Lib.hid (HEP.out (L.getD k (0, 0)) HMEM.out)
              have hwf := HWF.out _ HMEM.out
              have HL1 := Lib.hid (show (L.take (k + 1)).map (epD p) = (L.take k).map (epD p) ++ [epD p (L.getD k (0, 0))] from by rw [List.take_add_one, List.getElem?_eq_getElem hlt, List.getD_eq_getElem?_getD, List.getElem?_eq_getElem hlt]; simp only [List.map_append]; rfl)
              have HPN := Lib.hid (show ∀ i, i < k → L.getD i (0, 0) ≠ L.getD k (0, 0) from fun i hi q => by
                rw [List.getD_eq_getElem?_getD, List.getD_eq_getElem?_getD, List.getElem?_eq_getElem hlt, List.getElem?_eq_getElem (by omega)] at q
                exact (List.pairwise_iff_getElem.1 HND.out) i k (by omega) hlt hi q)
              generalize (L.take k).map (epD p) = Lk at *
              generalize hpr : L.getD k (0, 0) = pr at *
              have HPR := Lib.hid hpr
              clear hpr
              generalize epD p pr = uu at *
              obtain ⟨u0, u1, u2⟩ := uu
              obtain ⟨e1, e2⟩ := pr
              dsimp only at d0 d1 HEK
              have hwp : IntKind.i64.wrap ((p.nV : Int) + (k : Int)) = (p.nV : Int) + (k : Int) := IntWalk.i64_in _ (by omega)
              have hbr1 : Below wr.heap.size wr (wr.alloc (.cells #[.int .i64 e1, .int .i64 e2] 55)) := (by repeat (first | exact Below.refl _ _ | refine Below.drew ?_ | refine Below.alloc ?_ (by first | exact Nat.le_refl _ | (simp; done) | (simp; omega) | omega) _ | refine Below.more ?_ (by first | exact Nat.le_refl _ | (simp; done) | (simp; omega) | omega) _ _ | refine Below.setCell ?_ (by first | exact Nat.le_refl _ | (simp; done) | (simp; omega) | omega) _ | assumption))
              obtain ⟨w2, hmu, hm2, hg2⟩ := (HMP.out.kept hbr1).store (by simp only [maxLen]; omega) hwf (.int .i64 ((p.nV : Int) + (k : Int)))
              have HM2 := Lib.hid hm2
              have HG2 := Lib.hid hg2
              clear hm2 hg2
              have HB2 := Lib.hid (Below.grown (hbr.trans (hbr1.mono hbrs)) HG2.out (by simp; omega) (fun q hq => by simp only [Option.some.injEq] at hq; omega))
              have hbl := HMP.out.lt
              have HTA := Lib.hid (heap_at_other (heap_keep HTR.out hbr1) HG2.out (fun q => hTP (by simp only [Option.some.injEq] at q; exact q.symm)))
              have HEB := Lib.hid (heap_at_other (heap_alloc_new wr (.cells #[.int .i64 e1, .int .i64 e2] 55)) HG2.out (fun q => by simp only [Option.some.injEq] at q; omega))
              have HO2 := Lib.hid (own_grown (own_kept HOWN.out hbr1) HG2.out (fun b hb q => by
                obtain ⟨_, cc, fz, hcc⟩ := own_row HOWN.out b q
                obtain ⟨es, ck, hmm⟩ := HMP.out.isMap
                simp only [Option.some.injEq] at hb
                rw [← hb, hmm] at hcc; cases hcc))
              obtain ⟨fa, fc, hF0, hfo⟩ := ow_of_ownsRow (C := intAt (hitsTo p.faces (e1, e2) p.nF)) (HG.out.own (e1, e2)) (fun i hi j hj => by
                obtain rfl : j = 0 := by omega
                rw [Nat.mul_one, Nat.add_zero, List.getElem?_map, List.getElem?_eq_getElem hi]
                simp [intAt, List.getD_eq_getElem?_getD, List.getElem?_eq_getElem hi])
              have HSF := Lib.hid hfo.sl
              have HLK := Lib.hid (show ∀ W', Below wx.heap.size wx W' → (Instr.lookup 48 (.map (some b)) (.agg #[.int .i64 e1, .int .i64 e2]) false).run Try.prog W' = .ok (.slice fa (hitsTo p.faces (e1, e2) p.nF).length fc) W' from fun W' hb => hF0 ▸ (HG.out.kept hb).m.look hwf)
              obtain ⟨i0, hi, hz0, hz1, hz2⟩ := info_parts info_VecA
              go_wp2
              obtain ⟨X0, d0, hW2⟩ := Below.ext HB2.out
              rw [hW2] at HM2 HTA HEB HO2 ⊢
              clear hmu HG2 HB2 hfo
              clear hW2
              generalize wr.heap.size = E at *
              refine region_app4K [0, 1, 2, 3, 4, 5, 6, 7] [8, 9, 10, 11] 11 26 [vs, .slice none 0 0] 0 29 3 vs (p.nV + k) 1 _ [.int .i64 u0, .int .i64 u1, .int .i64 u2] (carried_and (places_carried _ _ _ _ T) (box_carried E T _ _)) (by kernel_rfl) (by kernel_rfl) HO2.out HTA.out ⟨HM2.out, HEB.out⟩ ?_
              refine headP_step rfl (fun K hK => ?_)
              go_simp
              refine ⟨_, fun zt ht hk1 hk2 => rfl, hK _ ?_⟩
              clear hK K
              refine headP_step rfl (fun K hK => ?_)
              go_simp
              refine ⟨vs, fun zt ht hk1 hk2 => (by have c := cell_at (j := 0) ht rfl; simp [c, Result.andThen]), hK _ ?_⟩
              clear hK K
              refine headP_step rfl (fun K hK => ?_)
              go_simp
              refine ⟨_, fun zt ht hk1 hk2 => rfl, hK _ ?_⟩
              clear hK K
              refine headP_step rfl (fun K hK => ?_)
              go_simp
              refine ⟨.agg #[.int .i64 e1, .int .i64 e2], fun zt ht hk1 hk2 => (by have c0 := cell_at (j := 0) hk2 rfl; have c1 := cell_at (j := 1) hk2 rfl; simp [c0, c1, Result.andThen]), hK _ ?_⟩
              clear hK K
              refine headP_step rfl (fun K hK => ?_)
              go_simp
              refine ⟨_, fun zt ht hk1 hk2 => rfl, hK _ ?_⟩
              clear hK K
              refine headP_step rfl (fun K hK => ?_)
              go_simp
              refine ⟨.agg #[.int .i64 e1, .int .i64 e2], fun zt ht hk1 hk2 => (by have c0 := cell_at (j := 0) hk2 rfl; have c1 := cell_at (j := 1) hk2 rfl; simp [c0, c1, Result.andThen]), hK _ ?_⟩
              clear hK K
              refine headP_step rfl (fun K hK => ?_)
              go_simp
              refine ⟨.slice fa (hitsTo p.faces (e1, e2) p.nF).length fc, fun zt ht hk1 hk2 => (by have c := HLK.out (more wx zt.X zt.d) (by repeat (first | exact Below.refl _ _ | refine Below.drew ?_ | refine Below.alloc ?_ (by first | exact Nat.le_refl _ | (simp; done) | (simp; omega) | omega) _ | refine Below.more ?_ (by first | exact Nat.le_refl _ | (simp; done) | (simp; omega) | omega) _ _ | refine Below.setCell ?_ (by first | exact Nat.le_refl _ | (simp; done) | (simp; omega) | omega) _ | assumption)); first | (simp [c, Result.andThen]; done) | exact .inl (by rw [c])), hK _ ?_⟩
              clear hK K
              refine headP_step rfl (fun K hK => ?_)
              go_simp
              refine ⟨_, fun zt ht hk1 hk2 => calls_stays (HEK.out _ (HBQ.out.trans (by repeat (first | exact Below.refl _ _ | refine Below.drew ?_ | refine Below.alloc ?_ (by first | exact Nat.le_refl _ | (simp; done) | (simp; omega) | omega) _ | refine Below.more ?_ (by first | exact Nat.le_refl _ | (simp; done) | (simp; omega) | omega) _ _ | refine Below.setCell ?_ (by first | exact Nat.le_refl _ | (simp; done) | (simp; omega) | omega) _ | assumption))) fa fc (HSF.out.below (by repeat (first | exact Below.refl _ _ | refine Below.drew ?_ | refine Below.alloc ?_ (by first | exact Nat.le_refl _ | (simp; done) | (simp; omega) | omega) _ | refine Below.more ?_ (by first | exact Nat.le_refl _ | (simp; done) | (simp; omega) | omega) _ _ | refine Below.setCell ?_ (by first | exact Nat.le_refl _ | (simp; done) | (simp; omega) | omega) _ | assumption)))), hK _ ?_⟩
              clear hK K
              refine headP_nil ?_
              refine tail_app4 (t := 23) (u := .pointer (some ⟨T, 0, none⟩)) (carried_and (places_carried _ _ _ _ T) (box_carried E T _ _)) hT (by decide) rfl rfl rfl rfl _ _ (by go_simp) (fun w => by go_simp) (fun b => by go_simp) rfl Try.underlying23 hi hz0 hz1 hz2 rfl (by decide) (fun b => by first | rfl | go_simp) (fun b => by first | rfl | go_simp) rfl ?g1 (by simp only [maxLen]; omega) (by omega) (fun b v' => by go_simp) (fun b v' w => by go_simp) (fun b v' => by go_simp) (fun b va vc w hw => ?gS) (fun b v' X1 d1 h1 h2 h3 => ?gr)
              case g1 =>
                intro u hu
                simp only [List.mem_cons, List.not_mem_nil, or_false] at hu
                rcases hu with rfl | rfl | rfl <;> rfl
              case gS =>
                go_simp
              case gr =>
                have HT2 := Lib.hid h2
                have HO3 := Lib.hid h1
                have HM3 := Lib.hid h3.1
                clear h1 h2 h3
                simp only [Act.put, List.setIfInBounds_toArray]
                go_wp2
                refine ⟨⟨k + 1, v', addK ks (e1, e2), putF P (e1, e2) (.int .i64 ((p.nV : Int) + (k : Int))), by omega, by first | rfl | go_num, (by repeat (first | exact Below.refl _ _ | refine Below.drew ?_ | refine Below.alloc ?_ (by first | exact Nat.le_refl _ | (simp; done) | (simp; omega) | omega) _ | refine Below.more ?_ (by first | exact Nat.le_refl _ | (simp; done) | (simp; omega) | omega) _ _ | refine Below.setCell ?_ (by first | exact Nat.le_refl _ | (simp; done) | (simp; omega) | omega) _ | assumption)), by simpa using HT2.out, ?_, HM3.out, Lib.hid fun i hi => ?_⟩, by simp only [intOf]; omega⟩
                · rw [HL1.out, ← List.append_assoc, vecVals_snoc]
                  exact HO3.out
                · by_cases hik : i = k
                  · rw [hik, HPR.out, putF_self]
                  · rw [putF_ne (HPN.out i (by omega))]
                    exact HPL.out i (by omega)
            · have hk1 : ¬ (k : Int) < (L.length : Int) := by omega
              obtain rfl : k = L.length := by omega
              have HOW := Lib.hid (show wr.ownsRow wx.heap.size 29 3 vs (p.nV + L.length + 0) (vecVals ((LV ++ L.map (epD p)) ++ (List.range 0).map fun z : Nat => fpD p (z : Int))) from by have h := HOWN.out; rw [List.take_length] at h; simpa using h)
              have HB2 := Lib.hid hbr
              have HLEN := Lib.hid (show (LV ++ L.map (epD p)).length = p.nV + L.length from by rw [List.length_append, List.length_map, HLVN.out])
              have HPA := Lib.hid (fun e (he : e ∈ L) => place_at HPL.out he)
              generalize LV ++ L.map (epD p) = LE at *
              clear HOWN HPL hbr
              have m0 := cell_below (HB2.out) n0
              have m1 := cell_below (HB2.out) n1
              have hwr0 := World.block_lt_of_cell? _ _ m0
              have HFS := Lib.hid (show ∀ k, ((List.range (k + 1)).map fun z : Nat => fpD p (z : Int)) = ((List.range k).map fun z : Nat => fpD p (z : Int)) ++ [fpD p (k : Int)] from fun k => by rw [List.range_succ, List.map_append]; rfl)
              have HLE := Lib.hid (show ∀ k, (LE ++ (List.range k).map fun z : Nat => fpD p (z : Int)).length = p.nV + L.length + k from fun k => by rw [List.length_append, HLEN.out]; simp)
              have HFLN := Lib.hid (show ∀ k, ((List.range k).flatMap fun i => (List.range 4).map fun j => subFace p i j).length = 4 * k from fun n => by
                induction n with
                | zero => rfl
                | succ n ih => rw [List.range_succ (n := n), List.flatMap_append, List.length_append, ih]; simp; omega)
              have HTR2 := HTR
              have HMP2 := HMP
              clear HTR HMP
              go_wp2
              go_loopw [90] (fun i wr => ∃ (k : Nat) (vs fs : Value), k ≤ p.nF ∧ i = .int .i64 k ∧ Below wx.heap.size wx wr ∧ wr.heap[T]? = some (.cells #[vs, fs] 26 (0, 0)) ∧ wr.ownsRow wx.heap.size 29 3 vs (p.nV + L.length + k) (vecVals (LE ++ (List.range k).map fun z : Nat => fpD p (z : Int))) ∧ FacesG wx.heap.size (4 * k) fs ((List.range k).flatMap fun i => (List.range 4).map fun j => subFace p i j) wr ∧ MapP wr bP L.length ks P) (fun i _ => p.nF - (intOf i).toNat)
              case atStart => exact ⟨0, _, _, by omega, rfl, HB2.out, HTR2.out, HOW.out, FacesG.nil _ _, HMP2.out⟩
              case round =>
                clear HB2 HTR2 HOW HMP2 m0 m1 hwr0
                obtain ⟨k, vs, fs, hk, rfl, hbr, hTr, hown, hft, hmp⟩ := hrel
                obtain ⟨va, vc, rfl⟩ := own_shape hown
                have HOWN := Lib.hid hown
                have HTR := Lib.hid hTr
                have HFT := Lib.hid hft
                have HMP := Lib.hid hmp
                have hTl := (Array.getElem?_eq_some_iff.1 hTr).1
                have t0 := cell_at (j := 0) hTr rfl
                clear hown hTr hft hmp
                by_cases hlt : k < p.nF
                · have hk1 : (k : Int) < (p.nF : Int) := by omega
                  have HEK := Lib.hid (HFP.out k hlt)
                  have HL1 := Lib.hid (HFS.out k)
                  have HLEk := Lib.hid (HLE.out k)
                  have HFL1 := Lib.hid (show ((List.range (k + 1)).flatMap fun i => (List.range 4).map fun j => subFace p i j) = ((List.range k).flatMap fun i => (List.range 4).map fun j => subFace p i j) ++ (List.range 4).map (subFace p k) from by rw [List.range_succ (n := k), List.flatMap_append]; simp)
                  obtain ⟨fb, fo, rfl, hfb, hfc⟩ := (HSA.out.below HBQ.out) (by omega)
                  have g0 : wx.cell? ⟨fb, fo + k, none⟩ = some (.slice (FA k) 4 (FK k)) := by have := hfc k hlt 0 (by omega); rw [Nat.mul_one, Nat.add_zero] at this; rw [this, ← HF4.out k hlt]; rfl
                  clear hfc
                  obtain ⟨qb, qo, hqe, hqb, hqc⟩ := (HSB.out k hlt) (by rw [HF4.out k hlt]; decide)
                  have HQC := Lib.hid (show ∀ t, t < 4 → wx.cell? ⟨qb, qo + t, none⟩ = some (.int .i64 ((faceAt p.faces k).getD t 0)) from fun t ht => cell_below HBQ.out (by have := hqc t (by rw [HF4.out k hlt]; exact ht) 0 (by omega); rw [Nat.mul_one, Nat.add_zero] at this; rw [this]; simp [intAt]))
                  rw [hqe] at g0
                  clear hqe hqc
                  generalize ((List.range k).map fun z : Nat => fpD p (z : Int)) = Lk at *
                  generalize fpD p (k : Int) = uu at *
                  obtain ⟨u0, u1, u2⟩ := uu
                  dsimp only at HEK
                  obtain ⟨i0, hi, hz0, hz1, hz2⟩ := info_parts info_VecA
                  obtain ⟨X0, d0', rfl⟩ := Below.ext hbr
                  go_wp2
                  refine region_app4 [0, 1, 2, 3, 4] [5, 6, 7, 8] 8 26 [.slice va (p.nV + L.length + k) vc, fs] 0 29 3 _ (p.nV + L.length + k) 1 _ [.int .i64 u0, .int .i64 u1, .int .i64 u2] (carried_and (facesG_carried _ _ T _ _) (places_carried _ _ _ _ T)) (by kernel_rfl) (by kernel_rfl) HOWN.out HTR.out ⟨HFT.out, HMP.out⟩ ?_
                  refine headP_step rfl (fun K hK => ?_)
                  go_simp
                  first
                    | refine ⟨_, fun zt ht => rfl, hK _ ?_⟩
                    | refine ⟨.slice va (p.nV + L.length + k) vc, fun zt ht => (by have c := cell_at (j := 0) ht rfl; simp [c, Result.andThen]), hK _ ?_⟩
                    | refine ⟨_, fun zt ht => calls_stays (HEK.out _ (HBQ.out.trans (by repeat (first | exact Below.refl _ _ | refine Below.drew ?_ | refine Below.alloc ?_ (by first | exact Nat.le_refl _ | (simp; done) | (simp; omega) | omega) _ | refine Below.more ?_ (by first | exact Nat.le_refl _ | (simp; done) | (simp; omega) | omega) _ _ | refine Below.setCell ?_ (by first | exact Nat.le_refl _ | (simp; done) | (simp; omega) | omega) _ | assumption)))), hK _ ?_⟩
                  clear hK K
                  refine headP_step rfl (fun K hK => ?_)
                  go_simp
                  first
                    | refine ⟨_, fun zt ht => rfl, hK _ ?_⟩
                    | refine ⟨.slice va (p.nV + L.length + k) vc, fun zt ht => (by have c := cell_at (j := 0) ht rfl; simp [c, Result.andThen]), hK _ ?_⟩
                    | refine ⟨_, fun zt ht => calls_stays (HEK.out _ (HBQ.out.trans (by repeat (first | exact Below.refl _ _ | refine Below.drew ?_ | refine Below.alloc ?_ (by first | exact Nat.le_refl _ | (simp; done) | (simp; omega) | omega) _ | refine Below.more ?_ (by first | exact Nat.le_refl _ | (simp; done) | (simp; omega) | omega) _ _ | refine Below.setCell ?_ (by first | exact Nat.le_refl _ | (simp; done) | (simp; omega) | omega) _ | assumption)))), hK _ ?_⟩
                  clear hK K
                  refine headP_step rfl (fun K hK => ?_)
                  go_simp
                  first
                    | refine ⟨_, fun zt ht => rfl, hK _ ?_⟩
                    | refine ⟨.slice va (p.nV + L.length + k) vc, fun zt ht => (by have c := cell_at (j := 0) ht rfl; simp [c, Result.andThen]), hK _ ?_⟩
                    | refine ⟨_, fun zt ht => calls_stays (HEK.out _ (HBQ.out.trans (by repeat (first | exact Below.refl _ _ | refine Below.drew ?_ | refine Below.alloc ?_ (by first | exact Nat.le_refl _ | (simp; done) | (simp; omega) | omega) _ | refine Below.more ?_ (by first | exact Nat.le_refl _ | (simp; done) | (simp; omega) | omega) _ _ | refine Below.setCell ?_ (by first | exact Nat.le_refl _ | (simp; done) | (simp; omega) | omega) _ | assumption)))), hK _ ?_⟩
                  clear hK K
                  refine headP_step rfl (fun K hK => ?_)
                  go_simp
                  first
                    | refine ⟨_, fun zt ht => rfl, hK _ ?_⟩
                    | refine ⟨.slice va (p.nV + L.length + k) vc, fun zt ht => (by have c := cell_at (j := 0) ht rfl; simp [c, Result.andThen]), hK _ ?_⟩
                    | refine ⟨_, fun zt ht => calls_stays (HEK.out _ (HBQ.out.trans (by repeat (first | exact Below.refl _ _ | refine Below.drew ?_ | refine Below.alloc ?_ (by first | exact Nat.le_refl _ | (simp; done) | (simp; omega) | omega) _ | refine Below.more ?_ (by first | exact Nat.le_refl _ | (simp; done) | (simp; omega) | omega) _ _ | refine Below.setCell ?_ (by first | exact Nat.le_refl _ | (simp; done) | (simp; omega) | omega) _ | assumption)))), hK _ ?_⟩
                  clear hK K
                  refine headP_step rfl (fun K hK => ?_)
                  go_simp
                  first
                    | refine ⟨_, fun zt ht => rfl, hK _ ?_⟩
                    | refine ⟨.slice va (p.nV + L.length + k) vc, fun zt ht => (by have c := cell_at (j := 0) ht rfl; simp [c, Result.andThen]), hK _ ?_⟩
                    | refine ⟨_, fun zt ht => calls_stays (HEK.out _ (HBQ.out.trans (by repeat (first | exact Below.refl _ _ | refine Below.drew ?_ | refine Below.alloc ?_ (by first | exact Nat.le_refl _ | (simp; done) | (simp; omega) | omega) _ | refine Below.more ?_ (by first | exact Nat.le_refl _ | (simp; done) | (simp; omega) | omega) _ _ | refine Below.setCell ?_ (by first | exact Nat.le_refl _ | (simp; done) | (simp; omega) | omega) _ | assumption)))), hK _ ?_⟩
                  clear hK K
                  refine headP_nil ?_
                  refine tail_app4 (t := 23) (u := .pointer (some ⟨T, 0, none⟩)) (carried_and (facesG_carried _ _ T _ _) (places_carried _ _ _ _ T)) hT (by decide) rfl rfl rfl rfl _ _ (by go_simp) (fun w => by go_simp) (fun b => by go_simp) rfl Try.underlying23 hi hz0 hz1 hz2 rfl (by decide) (fun b => by first | rfl | go_simp) (fun b => by first | rfl | go_simp) rfl ?k1 (by simp only [maxLen]; omega) (by omega) (fun b v' => by go_simp) (fun b v' w => by go_simp) (fun b v' => by go_simp) (fun b va vc w hw => ?kS) (fun b v' X1 d1' h1 h2 h3 => ?kr)
                  case k1 =>
                    intro u hu
                    simp only [List.mem_cons, List.not_mem_nil, or_false] at hu
                    rcases hu with rfl | rfl | rfl <;> rfl
                  case kS =>
                    go_simp
                  case kr =>
                    have HT2 := Lib.hid h2
                    have HO2 := Lib.hid h1
                    have HF2 := Lib.hid h3.1
                    have HM2 := Lib.hid h3.2
                    clear h1 h2 h3
                    simp only [Act.put, List.setIfInBounds_toArray]
                    obtain ⟨wr, hwr⟩ : ∃ wr, wr = more wx X1 d1' := ⟨_, rfl⟩
                    have hbr2 : Below wx.heap.size wx wr := by rw [hwr]; exact (by repeat (first | exact Below.refl _ _ | refine Below.drew ?_ | refine Below.alloc ?_ (by first | exact Nat.le_refl _ | (simp; done) | (simp; omega) | omega) _ | refine Below.more ?_ (by first | exact Nat.le_refl _ | (simp; done) | (simp; omega) | omega) _ _ | refine Below.setCell ?_ (by first | exact Nat.le_refl _ | (simp; done) | (simp; omega) | omega) _ | assumption))
                    have HST : Hid (SubU wx.heap.size T (LE ++ (Lk ++ [⟨u0, u1, u2⟩])) ((List.range k).flatMap fun i => (List.range 4).map fun j => subFace p i j) v' fs bP L.length ks P wr) := Lib.hid (by
                      rw [hwr]
                      refine ⟨by simpa using HT2.out, ?_, by rw [HFLN.out k]; exact HF2.out, HM2.out⟩
                      rw [← List.append_assoc, vecVals_snoc, show ((LE ++ Lk) ++ [(⟨u0, u1, u2⟩ : VecD)]).length = p.nV + L.length + k + 1 from by rw [List.length_append, HLEk.out, List.length_singleton]]
                      exact HO2.out)
                    rw [← hwr]
                    clear hwr HT2 HO2 HF2 HM2 HTR HOWN HFT HMP t0
                    go_wp2
                    go_loopw [108] (fun i wr => ∃ (j : Nat) (fs : Value), j ≤ 4 ∧ i = .int .i64 j ∧ Below wx.heap.size wx wr ∧ SubU wx.heap.size T (LE ++ (Lk ++ [⟨u0, u1, u2⟩])) (((List.range k).flatMap fun i => (List.range 4).map fun j => subFace p i j) ++ (List.range j).map (subFace p k)) v' fs bP L.length ks P wr) (fun i _ => 4 - (intOf i).toNat)
                    case atStart => exact ⟨0, _, by omega, rfl, hbr2, by simpa using HST.out⟩
                    case round =>
                      obtain ⟨j, fs, hj, rfl, hbr3, hst⟩ := hrel
                      have HS3 := Lib.hid hst
                      have HBR3 := Lib.hid hbr3
                      have hb3s := hbr3.size
                      have hTr3 := (Array.getElem?_eq_some_iff.1 hst.box).1
                      by_cases hlt4 : j < 4
                      · have hj1 : (j : Int) < 4 := by omega
                        have HFFL := Lib.hid (show (((List.range k).flatMap fun i => (List.range 4).map fun j => subFace p i j) ++ (List.range j).map (subFace p k)).length = 4 * k + j from by rw [List.length_append, HFLN.out k]; simp)
                        have HFFN := Lib.hid (show ((List.range k).flatMap fun i => (List.range 4).map fun j => subFace p i j) ++ (List.range (j + 1)).map (subFace p k) = (((List.range k).flatMap fun i => (List.range 4).map fun j => subFace p i j) ++ (List.range j).map (subFace p k)) ++ [subFace p k j] from by rw [List.range_succ (n := j), List.map_append, List.append_assoc]; rfl)
                        generalize (((List.range k).flatMap fun i => (List.range 4).map fun j => subFace p i j) ++ (List.range j).map (subFace p k)) = FF at *
                        obtain ⟨j1, hj1e⟩ : ∃ t, t = (j + 1) % 4 := ⟨_, rfl⟩
                        obtain ⟨j3, hj3e⟩ : ∃ t, t = (j + 3) % 4 := ⟨_, rfl⟩
                        have HM1 := Lib.hid (hj1e ▸ step_next (s := p.faces) (k := p.nF) hlt hlt4 (HF4.out k hlt))
                        have HM3 := Lib.hid (hj3e ▸ step_last (s := p.faces) (k := p.nF) hlt hlt4 (HF4.out k hlt))
                        have HSF := Lib.hid (show subFace p k j = [(faceAt p.faces k).getD j 0, ((p.nV + placeE (edgesL p.faces p.nF) (und ((faceAt p.faces k).getD j 0, (faceAt p.faces k).getD j1 0)) : Nat) : Int), ((p.nV + (edgesL p.faces p.nF).length + k : Nat) : Int), ((p.nV + placeE (edgesL p.faces p.nF) (und ((faceAt p.faces k).getD j 0, (faceAt p.faces k).getD j3 0)) : Nat) : Int)] by rw [hj1e, hj3e]; simp only [subFace, Int.natCast_add])
                        rw [HLL.out] at HM1 HM3 HSF
                        have f0 : wr.cell? ⟨qb, qo + j, none⟩ = some (.int .i64 ((faceAt p.faces k).getD j 0)) := cell_below hbr3 (HQC.out j hlt4)
                        have f1 : wr.cell? ⟨qb, qo + j1, none⟩ = some (.int .i64 ((faceAt p.faces k).getD j1 0)) := cell_below hbr3 (HQC.out j1 (by omega))
                        have f3 : wr.cell? ⟨qb, qo + j3, none⟩ = some (.int .i64 ((faceAt p.faces k).getD j3 0)) := cell_below hbr3 (HQC.out j3 (by omega))
                        have hq0 : qb < wr.heap.size := World.block_lt_of_cell? _ _ f0
                        have m1 : ((j : Int) + 1).tmod 4 = (j1 : Int) := by rw [Int.tmod_eq_emod_of_nonneg (by omega)]; omega
                        have m1' : ((j : Int) + 1) % 4 = (j1 : Int) := by omega
                        have m3 : ((j : Int) + 3).tmod 4 = (j3 : Int) := by rw [Int.tmod_eq_emod_of_nonneg (by omega)]; omega
                        have m3' : ((j : Int) + 3) % 4 = (j3 : Int) := by omega
                        have w1 : IntKind.i64.wrap ((j : Int) + 1) = (j : Int) + 1 := IntWalk.i64_in _ (by omega)
                        have w3 : IntKind.i64.wrap ((j : Int) + 3) = (j : Int) + 3 := IntWalk.i64_in _ (by omega)
                        have l1 : (j1 : Int) < 4 := by omega
                        have l3 : (j3 : Int) < 4 := by omega
                        have hpl1 := placeE_lt HM1.out
                        have hpl3 := placeE_lt HM3.out
                        have HWF1 := Lib.hid (HWF.out _ HM1.out)
                        have HWF3 := Lib.hid (HWF.out _ HM3.out)
                        have HPA1 := Lib.hid (HPA.out _ HM1.out)
                        have HPA3 := Lib.hid (HPA.out _ HM3.out)
                        generalize (faceAt p.faces k).getD j 0 = x0 at *
                        generalize (faceAt p.faces k).getD j1 0 = x1 at *
                        generalize (faceAt p.faces k).getD j3 0 = x3 at *
                        generalize placeE L (und (x0, x1)) = q1 at *
                        generalize placeE L (und (x0, x3)) = q3 at *
                        clear hj1e hj3e hst
                        have HSQ := Lib.hid (show subFace p k j = [x0, (p.nV : Int) + (q1 : Int), (p.nV : Int) + (L.length : Int) + (k : Int), (p.nV : Int) + (q3 : Int)] from by rw [HSF.out]; simp only [Int.natCast_add])
                        clear HSF HM1 HM3
                        go_wp2
                        refine region_fresh [0, 1, 2, 3, 4, 5, 6, 7, 8, 9, 10, 11, 12, 13, 14, 15] 2 (fun j => 16 + j) (fun j => 18 + j) (fun j => 17 + j) (fun j => 120 + 8 * j) 55 [.int .i64 0, .int .i64 0] (fun j => if j = 0 then [.int .i64 x0, .int .i64 x1] else [.int .i64 x0, .int .i64 x3]) (fun j => if j = 0 then .agg #[.int .i64 x0, .int .i64 x1] else .agg #[.int .i64 x0, .int .i64 x3]) (by kernel_rfl) (by kernel_rfl) (fun i j _ _ h e => by omega) (fun i j _ _ e => by omega) ?fA ?fS ?fH
                        case fA =>
                          intro j hj
                          have hj' : j = 0 ∨ j = 1 := by omega
                          rcases hj' with rfl | rfl <;> exact ⟨_, rfl, rfl, rfl, fun ρ w => by go_simp⟩
                        case fS =>
                          intro j hj
                          have hj' : j = 0 ∨ j = 1 := by omega
                          rcases hj' with rfl | rfl <;> exact ⟨_, rfl, rfl, rfl, fun ρ b w h1 h2 hb => by simp only [Nat.reduceMul, Nat.reduceAdd, Nat.add_zero, Nat.mul_zero, if_true, Nat.one_ne_zero, if_false] at h1 h2; go_simp⟩
                        case fH =>
                          repeat (refine headP_step rfl (fun K hK => ?_); go_simp; refine hK _ ?_; clear hK K)
                          refine headP_nil ⟨?_, ?_, ?_⟩
                          · intro j hj
                            have hj' : j = 0 ∨ j = 1 := by omega
                            rcases hj' with rfl | rfl <;> rfl
                          · intro i hi
                            simp only [List.size_toArray, List.length_cons, List.length_nil]
                            omega
                          · intro β hβ Wy hWy
                            obtain ⟨E1, hE1⟩ := Option.isSome_iff_exists.1 (hβ 0 (by decide))
                            obtain ⟨E2, hE2⟩ := Option.isSome_iff_exists.1 (hβ 1 (by decide))
                            obtain ⟨y1, y2, _⟩ := hWy
                            have HE1 : Hid (Wy.heap[E1]? = some (.cells #[.int .i64 x0, .int .i64 x1] 55 (0, 0))) := Lib.hid (y2 0 E1 hE1).2
                            have HE2 : Hid (Wy.heap[E2]? = some (.cells #[.int .i64 x0, .int .i64 x3] 55 (0, 0))) := Lib.hid (y2 1 E2 hE2).2
                            have hb4 : Below wx.heap.size wx Wy := HBR3.out.trans (y1.mono hb3s)
                            have HS4 := Lib.hid (HS3.out.below y1)
                            obtain ⟨U, g1, g2, g3⟩ := HS4.out.fac
                            have HU1 := Lib.hid g1
                            have HU2 : Hid (FaceRows wx.heap.size FF.length U FF Wy) := Lib.hid g2
                            have HU3 := Lib.hid g3
                            obtain ⟨S0, hS0⟩ : ∃ s, s = Wy.heap.size := ⟨_, rfl⟩
                            have HS0 := Lib.hid hS0
                            have HR4 : Hid (∀ i, i < FF.length → Wy.ownsRow wx.heap.size 3 1 (U i) 4 ((FF.getD i []).map (.int .i64))) := Lib.hid fun i hi => (g2 i hi).2
                            simp only [putAll, hE1, hE2, Nat.reduceAdd, Nat.add_zero, Act.put, List.setIfInBounds_toArray, List.set_cons_zero, List.set_cons_succ]
                            clear g1 g2 g3 y1 y2 hE1 hE2 hβ hS0 hi hz0 hz1 hz2 f0 f1 f3
                            obtain ⟨i1, hi, hz0, hz1, hz2⟩ := info_parts info_Ints
                            obtain ⟨X4, d4, rfl⟩ := Below.ext hb4
                            have hS0x : wx.heap.size ≤ S0 := by rw [HS0.out]; exact hb4.size
                            go_wp2
                            refine region_app6 (K := fun w => (((w.ownsRow wx.heap.size 29 3 v' (LE ++ (Lk ++ [(⟨u0, u1, u2⟩ : VecD)])).length (vecVals (LE ++ (Lk ++ [(⟨u0, u1, u2⟩ : VecD)]))) ∧ FaceRows wx.heap.size FF.length U FF w) ∧ MapP w bP L.length ks P) ∧ (w.heap[E1]? = some (.cells #[.int .i64 x0, .int .i64 x1] 55 (0, 0)) ∧ w.heap[E2]? = some (.cells #[.int .i64 x0, .int .i64 x3] 55 (0, 0)))) ∧ S0 ≤ w.heap.size) (R := fun u w => w.ownsRow S0 3 1 u 4 ((subFace p k j).map (.int .i64))) [(0, true), (1, true), (2, true), (3, true), (4, true), (5, true), (6, true), (7, true), (8, true), (9, true), (10, true), (11, true)] [12, 13, 14, 15, 16] 16 26 [v', fs] 1 57 fs FF.length ((List.range FF.length).map U) (carried_and (carried_and (carried_and (carried_and (own_carried _ _ _ _ _ _ _ _ _ (by decide) (by decide)) (face_rows_carried _ _ _ _ _ _ _ (by decide) (by decide))) (placesE_carried _ _ _ _ _ _ _)) (carried_and (boxE_carried _ _ _ _ _ (by decide) (by decide)) (boxE_carried _ _ _ _ _ (by decide) (by decide)))) (size_carried _ _ _ _)) (fun u => own_carried _ _ _ _ _ _ _ _ _ (by decide) (by decide)) (by kernel_rfl) (by kernel_rfl) HU1.out HS4.out.box ⟨⟨⟨⟨HS4.out.own, HU2.out⟩, HS4.out.map⟩, ⟨HE1.out, HE2.out⟩⟩, by rw [HS0.out]; exact Nat.le_refl _⟩ ?_
                            refine headW_step rfl (fun K hK => ?_)
                            go_simp
                            refine ⟨_, fun zt ht k1 k2 k3 k4 k5 k6 => rfl, hK _ ?_⟩
                            clear hK K
                            refine headW_step rfl (fun K hK => ?_)
                            go_simp
                            refine ⟨fs, fun zt ht k1 k2 k3 k4 k5 k6 => (by have c := cell_at (j := 1) ht rfl; simp [c, Result.andThen]), hK _ ?_⟩
                            clear hK K
                            refine headW_step rfl (fun K hK => ?_)
                            go_simp
                            refine ⟨_, fun zt ht k1 k2 k3 k4 k5 k6 => rfl, hK _ ?_⟩
                            clear hK K
                            refine headW_step rfl (fun K hK => ?_)
                            go_simp
                            refine ⟨_, fun zt ht k1 k2 k3 k4 k5 k6 => rfl, hK _ ?_⟩
                            clear hK K
                            refine headW_step rfl (fun K hK => ?_)
                            go_simp
                            refine ⟨.agg #[.int .i64 x0, .int .i64 x1], fun zt ht k1 k2 k3 k4 k5 k6 => (by have c0 := cell_at (j := 0) k4 rfl; have c1 := cell_at (j := 1) k4 rfl; simp [c0, c1, Result.andThen]), hK _ ?_⟩
                            clear hK K
                            refine headW_step rfl (fun K hK => ?_)
                            go_simp
                            refine ⟨_, fun zt ht k1 k2 k3 k4 k5 k6 => calls_stays (und_c _ _ _), hK _ ?_⟩
                            clear hK K
                            refine headW_step rfl (fun K hK => ?_)
                            go_simp
                            refine ⟨.int .i64 ((p.nV : Int) + (q1 : Int)), fun zt ht k1 k2 k3 k4 k5 k6 => (by have c := k3.look HWF1.out; rw [HPA1.out] at c; first | (simp [c, Result.andThen]; done) | exact .inl (by rw [c])), hK _ ?_⟩
                            clear hK K
                            refine headW_step rfl (fun K hK => ?_)
                            go_simp
                            refine ⟨_, fun zt ht k1 k2 k3 k4 k5 k6 => rfl, hK _ ?_⟩
                            clear hK K
                            refine headW_step rfl (fun K hK => ?_)
                            go_simp
                            refine ⟨_, fun zt ht k1 k2 k3 k4 k5 k6 => rfl, hK _ ?_⟩
                            clear hK K
                            refine headW_step rfl (fun K hK => ?_)
                            go_simp
                            refine ⟨.agg #[.int .i64 x0, .int .i64 x3], fun zt ht k1 k2 k3 k4 k5 k6 => (by have c0 := cell_at (j := 0) k5 rfl; have c1 := cell_at (j := 1) k5 rfl; simp [c0, c1, Result.andThen]), hK _ ?_⟩
                            clear hK K
                            refine headW_step rfl (fun K hK => ?_)
                            go_simp
                            refine ⟨_, fun zt ht k1 k2 k3 k4 k5 k6 => calls_stays (und_c _ _ _), hK _ ?_⟩
                            clear hK K
                            refine headW_step rfl (fun K hK => ?_)
                            go_simp
                            refine ⟨.int .i64 ((p.nV : Int) + (q3 : Int)), fun zt ht k1 k2 k3 k4 k5 k6 => (by have c := k3.look HWF3.out; rw [HPA3.out] at c; first | (simp [c, Result.andThen]; done) | exact .inl (by rw [c])), hK _ ?_⟩
                            clear hK K
                            refine headW_nil ?_
                            have HSL := Lib.hid (show ((subFace p k j).map (.int .i64) : List Value) = [.int .i64 x0, .int .i64 ((p.nV : Int) + (q1 : Int)), .int .i64 ((p.nV : Int) + (L.length : Int) + (k : Int)), .int .i64 ((p.nV : Int) + (q3 : Int))] from by rw [HSQ.out]; rfl)
                            have hff := HFFL.out
                            refine tail_app6 (t := 24) (u := .pointer (some ⟨T, 1, none⟩)) (carried_and (carried_and (carried_and (carried_and (own_carried _ _ _ _ _ _ _ _ _ (by decide) (by decide)) (face_rows_carried _ _ _ _ _ _ _ (by decide) (by decide))) (placesE_carried _ _ _ _ _ _ _)) (carried_and (boxE_carried _ _ _ _ _ (by decide) (by decide)) (boxE_carried _ _ _ _ _ (by decide) (by decide)))) (size_carried _ _ _ _)) (fun u => own_carried _ _ _ _ _ _ _ _ _ (by decide) (by decide)) (fun u w h => by obtain ⟨a, c, e⟩ := own_shape h; exact ⟨_, _, _, e⟩) hT (by decide) rfl rfl rfl rfl rfl _ _ (by go_simp) (fun w hz hT0 hk => ?hA) (fun ua un uc => by go_simp) (fun ua un uc w => by simp (config := { maxSteps := 2000000 }) [go_sem]) (fun ua un uc b => by go_simp) rfl Try.underlying24 hi hz0 hz1 hz2 rfl (fun ua un uc b => by first | rfl | go_simp) (fun ua un uc b => by first | rfl | go_simp) (by simp only [maxLen]; omega) (by omega) (fun ua un uc b v' => by go_simp) (fun ua un uc b v' w => by go_simp) (fun ua un uc b v' => by go_simp) (fun ua un uc b va vc w hw => ?hS6) (fun ua un uc b v5 X5 d5 h1 h2 h3 h4 => ?hr6)
                            case hA =>
                              obtain ⟨_, hsz⟩ := hk
                              refine gives_value (u := .slice (some ⟨w.heap.size, 0, none⟩) 4 4) (w' := w.alloc (.cells ⟨[.int .i64 x0, .int .i64 ((p.nV : Int) + (q1 : Int)), .int .i64 ((p.nV : Int) + (L.length : Int) + (k : Int)), .int .i64 ((p.nV : Int) + (q3 : Int))]⟩ 3)) (by simp (config := { maxSteps := 2000000 }) [go_sem]) ⟨Below.alloc (Below.refl _ _) (Nat.le_refl _) _, ?_⟩
                              rw [HSL.out]
                              exact ⟨rfl, .inr ⟨w.heap.size, 4, _, rfl, hsz, heap_alloc_new _ _, Nat.le_refl _, by simp [maxLen], rfl, rfl⟩⟩
                            case hS6 => go_simp
                            case hr6 =>
                              have HT5 := Lib.hid h2
                              have HO5 := Lib.hid h1
                              have HK5 := Lib.hid h3
                              have HR5 := Lib.hid h4
                              clear h1 h2 h3 h4
                              simp only [Act.put, List.setIfInBounds_toArray]
                              go_wp2
                              refine ⟨⟨j + 1, v5, by omega, by first | rfl | go_num, (by repeat (first | exact Below.refl _ _ | refine Below.drew ?_ | refine Below.alloc ?_ (by first | exact Nat.le_refl _ | (simp; done) | (simp; omega) | omega) _ | refine Below.more ?_ (by first | exact Nat.le_refl _ | (simp; done) | (simp; omega) | omega) _ _ | refine Below.setCell ?_ (by first | exact Nat.le_refl _ | (simp; done) | (simp; omega) | omega) _ | assumption)), ?_⟩, by simp only [intOf]; omega⟩
                              rw [HFFN.out]
                              refine ⟨by simpa using HT5.out, HK5.out.1.1.1.1, ?_, HK5.out.1.1.2⟩
                              rw [List.length_append, List.length_singleton]
                              exact facesG_snoc (w0 := more wx X4 d4) rfl (by rw [HSQ.out]; rfl) HR4.out (by rw [HS0.out]; exact Nat.le_refl _) hS0x HO5.out HK5.out.1.1.1.2 HR5.out HU3.out
                      · obtain rfl : j = 4 := by omega
                        go_wp2
                        refine ⟨⟨k + 1, v', fs, by omega, by first | rfl | go_num, HBR3.out, HS3.out.box, ?_, ?_, HS3.out.map⟩, by simp only [intOf]; omega⟩
                        · have h := HS3.out.own
                          rw [show (LE ++ (Lk ++ [(⟨u0, u1, u2⟩ : VecD)])).length = p.nV + L.length + (k + 1) from by rw [← List.append_assoc, List.length_append, HLEk.out, List.length_singleton]; omega] at h
                          rw [HL1.out]; exact h
                        · have h := HS3.out.fac
                          rw [← HFL1.out, HFLN.out (k + 1)] at h
                          exact h
                · have hk1 : ¬ (k : Int) < (p.nF : Int) := by omega
                  obtain rfl : k = p.nF := by omega
                  obtain ⟨fa, fc, rfl⟩ : ∃ fa fc, fs = .slice fa (4 * p.nF) fc := by
                    obtain ⟨Uf, hf1, _, _⟩ := HFT.out
                    exact own_shape hf1
                  have t1 := cell_at (j := 1) HTR.out rfl
                  have hn2 := heap_keep n2 hbr
                  have hl2 := (Array.getElem?_eq_some_iff.1 n2).1
                  have R0 := cell_at (j := 0) hn2 rfl
                  have R1 := cell_at (j := 1) hn2 rfl
                  have Z0 := frozen_at (j := 0) hn2
                  have Z1 := frozen_at (j := 1) hn2
                  have HBR := Lib.hid hbr
                  have hwr1 := World.block_lt_of_cell? _ _ R0
                  clear hbr hn2
                  go_wp2
                  refine bodyPost_ret (v := .tuple #[.agg #[.slice va (p.nV + L.length + p.nF) vc, .slice fa (4 * p.nF) fc], .bool true]) (by simp [results, Try.results7, go_sem, R0, R1]) rfl ⟨_, _, rfl, ?_, ?_, Below.trans (HBQ.out.trans (HBR.out.mono HBQ.out.size)) (by repeat (first | exact Below.refl _ _ | refine Below.drew ?_ | refine Below.alloc ?_ (by first | exact Nat.le_refl _ | (simp; done) | (simp; omega) | omega) _ | refine Below.more ?_ (by first | exact Nat.le_refl _ | (simp; done) | (simp; omega) | omega) _ _ | refine Below.setCell ?_ (by first | exact Nat.le_refl _ | (simp; done) | (simp; omega) | omega) _ | assumption))⟩
                  · rw [HSV.out, HLE.out p.nF]
                    exact own_base (own_chg HOWN.out (chg_set2 _ _ _ _) (by omega)) (by omega)
                  · rw [show subFs p = (List.range p.nF).flatMap fun i => (List.range 4).map fun j => subFace p i j from rfl, HFLN.out p.nF]
                    exact FacesG.base (FacesG.chg HFT.out (chg_set2 _ _ _ _) (by omega)) (by omega)
end Go.Proofs.Ytpfmcobkfofbjaa
