/- Contract of the reference's Subdivide (under way: not whole). -/
import Derived.Test.YtpfmcobkfofbjaaGreatSubMath
import Derived.Test.YtpfmcobkfofbjaaGreatVertexPointS
import Derived.Test.YtpfmcobkfofbjaaGreatSubG
import Derived.Deep.DeepCutAuto
namespace Go.Proofs.YtpfmcobkfofbjaaGreat
open Go Go.RowKit
theorem carried_true (e tm : TypeId) (T : Nat) : Carried (fun _ => True) e tm T := ⟨fun _ _ h _ => h, fun _ _ _ h _ _ _ => h, fun _ _ h _ _ => h⟩
set_option maxRecDepth 100000 in
set_option maxHeartbeats 8000000 in
theorem spec_Subdivide_c (v : Value) (p : MeshD) (w : World) (hr : MeshR w v p) (hs : MeshSz 1048576 p) (hok : subOk p) :
    Calls Tryz.prog 6 #[v] w (SubE p w) := by
  have hm := hok.1
  have hmB : meshOkB p = true := meshOkB_true.2 hm
  have hed : edgesD p = edgesL p.faces p.nF := by rw [edgesD, if_pos hmB]
  have HED := Lib.hid (fun W (h : Below w.heap.size w W) => hed ▸ spec_Edges_c _ p W (hr.below h) hs)
  have HVM := Lib.hid (fun W (h : Below w.heap.size w W) => hmB ▸ spec_IsValidMesh_c _ p W (hr.below h) hs)
  have hmB' := hmB
  have HEP := Lib.hid (fun (e : Int × Int) (he : e ∈ edgesL p.faces p.nF) W (h : Below w.heap.size w W) => epR_edge hmB he ▸ spec_EdgePoint_c _ p e.1 e.2 (wfE_edges (hed.symm ▸ he)).1 (wfE_edges (hed.symm ▸ he)).2 W (hr.below h) hs)
  have HFP := Lib.hid (fun (z : Nat) (hz : z < p.nF) W (h : Below w.heap.size w W) => (fpR_yes (p := p) (x := (z : Int)) ⟨hm, by omega, by omega⟩) ▸ spec_FacePoint_c _ p (z : Int) W (hr.below h) hs)
  have HVP := Lib.hid (fun (z : Nat) (hz : z < p.nV) W (h : Below w.heap.size w W) => ((vpR_yes (p := p) (v := (z : Int)) ⟨hm, by omega, by omega⟩).trans (vpE_D p z)) ▸ spec_VertexPoint_c _ p (z : Int) W (hr.below h) hs)
  obtain ⟨a, c, a', c', rfl, h1, h2⟩ := hr
  obtain ⟨FA, FK, h2a, h2b, _⟩ := h2
  have HSA := Lib.hid h2a
  have HSB := Lib.hid h2b
  have HF4 := Lib.hid (fun i (hi : i < p.nF) => (hok.1.2.2.2.1 i hi).1)
  clear h2a h2b
  have hn1 := hok.2.1
  have hn2 := hok.2.2
  have hf16 : ¬ (16 : Int) < (p.nF : Int) := by omega
  generalize hL : edgesL p.faces p.nF = L at *
  have HLL := Lib.hid hL
  clear hL hed hmB hm
  have hs80 : ¬ (80 : Int) < ((p.nV : Int) + (L.length : Int)) + (p.nF : Int) := by omega
  go_enter Tryz.func6, Tryz.ntmps6
  go_upto_region 5 with (first | (go_at_call 16; refine (HED.out _ (by repeat (first | exact Below.refl _ _ | refine Below.drew ?_ | refine Below.alloc ?_ (by first | exact Nat.le_refl _ | (simp; done) | (simp; omega) | omega) _ | refine Below.more ?_ (by first | exact Nat.le_refl _ | (simp; done) | (simp; omega) | omega) _ _ | refine Below.setCell ?_ (by first | exact Nat.le_refl _ | (simp; done) | (simp; omega) | omega) _ | assumption))).mono ?_; rintro e wq ⟨ev, EA, rfl, ho, hbq⟩; obtain ⟨ea, ec, rfl⟩ := ho.form; have HO := Lib.hid ho; have m0 := cell_below hbq (show World.cell? _ ⟨w.heap.size, 0, none⟩ = some (.slice a p.nV c) by simp [go_sem]); have m1 := cell_below hbq (show World.cell? _ ⟨w.heap.size, 1, none⟩ = some (.slice a' p.nF c') by simp [go_sem]); have r0 := cell_below hbq (show World.cell? _ ⟨w.heap.size + 1, 0, none⟩ = some (.slice none 0 0) by simp [go_sem]); have r1 := cell_below hbq (show World.cell? _ ⟨w.heap.size + 1, 1, none⟩ = some (.slice none 0 0) by simp [go_sem]); have z0 := frozen_below hbq (show World.cell? _ ⟨w.heap.size + 1, 0, none⟩ = some (.slice none 0 0) by simp [go_sem]) (by simp [go_sem]); have z1 := frozen_below hbq (show World.cell? _ ⟨w.heap.size + 1, 1, none⟩ = some (.slice none 0 0) by simp [go_sem]) (by simp [go_sem]); have HBQ := Lib.hid (Below.trans (show Below w.heap.size w _ from (by repeat (first | exact Below.refl _ _ | refine Below.drew ?_ | refine Below.alloc ?_ (by first | exact Nat.le_refl _ | (simp; done) | (simp; omega) | omega) _ | refine Below.more ?_ (by first | exact Nat.le_refl _ | (simp; done) | (simp; omega) | omega) _ _ | refine Below.setCell ?_ (by first | exact Nat.le_refl _ | (simp; done) | (simp; omega) | omega) _ | assumption))) (hbq.mono (by simp; try omega))); have hwq := World.block_lt_of_cell? _ _ r0; have hwq0 := World.block_lt_of_cell? _ _ m0; clear ho hbq) | (go_at_call 17; refine (HVM.out _ (HBQ.out.trans (by repeat (first | exact Below.refl _ _ | refine Below.drew ?_ | refine Below.alloc ?_ (by first | exact Nat.le_refl _ | (simp; done) | (simp; omega) | omega) _ | refine Below.more ?_ (by first | exact Nat.le_refl _ | (simp; done) | (simp; omega) | omega) _ _ | refine Below.setCell ?_ (by first | exact Nat.le_refl _ | (simp; done) | (simp; omega) | omega) _ | assumption)))).mono ?_; rintro e wn ⟨rfl, hbn⟩; obtain ⟨X, nX, rfl⟩ := Below.ext hbn; clear hbn))
  go_cut [6] (fun s6 wy => ∃ T : Nat, s6 = .pointer (some ⟨T, 0, none⟩) ∧ wq.heap.size ≤ T ∧ wy.heap[T]? = some (.cells #[.slice none 0 0, .slice none 0 0] 29 (0, 0)) ∧ Below wq.heap.size wq wy)
  case first =>
    go_wp2
    go_meet
    exact ⟨_, rfl, Nat.le_add_right _ _, by have h := heap_alloc_new (more wq X nX) (.cells #[.slice none 0 0, .slice none 0 0] 29); simpa using h, (by repeat (first | exact Below.refl _ _ | refine Below.drew ?_ | refine Below.alloc ?_ (by first | exact Nat.le_refl _ | (simp; done) | (simp; omega) | omega) _ | refine Below.more ?_ (by first | exact Nat.le_refl _ | (simp; done) | (simp; omega) | omega) _ _ | refine Below.setCell ?_ (by first | exact Nat.le_refl _ | (simp; done) | (simp; omega) | omega) _ | assumption))⟩
  case rest =>
    rename World => wx
    obtain ⟨T, rfl, hT, hTc, hbx⟩ := hcut
    have HBX := Lib.hid hbx
    have HTC := Lib.hid hTc
    have hsx := hbx.size
    have n0 := cell_below hbx m0
    have n1 := cell_below hbx m1
    have hwx0 := World.block_lt_of_cell? _ _ n0
    clear hbx hTc
    have HLS := Lib.hid (show ∀ k, ((List.range (k + 1)).map fun z : Nat => vpD p (z : Int)) = ((List.range k).map fun z : Nat => vpD p (z : Int)) ++ [vpD p (k : Int)] from fun k => by rw [List.range_succ, List.map_append]; rfl)
    have HLN := Lib.hid (show ∀ k, ((List.range k).map fun z : Nat => vpD p (z : Int)).length = k from fun k => by simp)
    go_wp2
    go_loopw [46] (fun i wr => ∃ (k : Nat) (vs : Value), k ≤ p.nV ∧ i = .int .i64 k ∧ Below wq.heap.size wq wr ∧ wr.heap[T]? = some (.cells #[vs, .slice none 0 0] 29 (0, 0)) ∧ wr.ownsRow wq.heap.size 43 3 vs k (vecVals ((List.range k).map fun z : Nat => vpD p (z : Int)))) (fun i _ => p.nV - (intOf i).toNat)
    case atStart => exact ⟨0, _, by omega, rfl, HBX.out, HTC.out, World.ownsRow_nil _ _ _ _⟩
    case round =>
      clear HBX HTC
      obtain ⟨k, vs, hk, rfl, hbr, hTr, hown⟩ := hrel
      have HOWN := Lib.hid hown
      have HTR := Lib.hid hTr
      have hTl := (Array.getElem?_eq_some_iff.1 hTr).1
      clear hown hTr
      by_cases hlt : k < p.nV
      · have hk1 : (k : Int) < (p.nV : Int) := by omega
        have HVK := Lib.hid (HVP.out k hlt)
        have HL1 := Lib.hid (HLS.out k)
        generalize ((List.range k).map fun z : Nat => vpD p (z : Int)) = Lk at *
        generalize vpD p (k : Int) = u at *
        obtain ⟨u0, u1, u2⟩ := u
        dsimp only at HVK
        obtain ⟨i0, hi, hz0, hz1, hz2⟩ := info_parts info_VecA
        obtain ⟨X0, d0, rfl⟩ := Below.ext hbr
        go_wp2
        refine region_app4 [0, 1, 2, 3, 4] [5, 6, 7, 8] 8 29 [vs, .slice none 0 0] 0 43 3 vs k 1 _ [.int .i64 u0, .int .i64 u1, .int .i64 u2] (carried_true _ _ T) (by kernel_rfl) (by kernel_rfl) HOWN.out HTR.out trivial ?_
        refine headP_step rfl (fun K hK => ?_)
        go_simp
        refine ⟨_, fun zt ht => rfl, hK _ ?_⟩
        clear hK K
        refine headP_step rfl (fun K hK => ?_)
        go_simp
        refine ⟨vs, fun zt ht => (by have c := cell_at (j := 0) ht rfl; simp [c, Result.andThen]), hK _ ?_⟩
        clear hK K
        refine headP_step rfl (fun K hK => ?_)
        go_simp
        refine ⟨_, fun zt ht => rfl, hK _ ?_⟩
        clear hK K
        refine headP_step rfl (fun K hK => ?_)
        go_simp
        refine ⟨_, fun zt ht => rfl, hK _ ?_⟩
        clear hK K
        refine headP_step rfl (fun K hK => ?_)
        go_simp
        refine ⟨_, fun zt ht => calls_stays (HVK.out _ (HBQ.out.trans (by repeat (first | exact Below.refl _ _ | refine Below.drew ?_ | refine Below.alloc ?_ (by first | exact Nat.le_refl _ | (simp; done) | (simp; omega) | omega) _ | refine Below.more ?_ (by first | exact Nat.le_refl _ | (simp; done) | (simp; omega) | omega) _ _ | refine Below.setCell ?_ (by first | exact Nat.le_refl _ | (simp; done) | (simp; omega) | omega) _ | assumption)))), hK _ ?_⟩
        clear hK K
        refine headP_nil ?_
        refine tail_app4 (t := 27) (u := .pointer (some ⟨T, 0, none⟩)) (carried_true _ _ T) hT (by decide) rfl rfl rfl rfl _ _ (by go_simp) (fun w => by go_simp) (fun b => by go_simp) rfl Tryz.underlying27 hi hz0 hz1 hz2 rfl (by decide) (fun b => by first | rfl | go_simp) (fun b => by first | rfl | go_simp) rfl ?h1 (by simp only [maxLen]; omega) (by omega) (fun b v' => by go_simp) (fun b v' w => by go_simp) (fun b v' => by go_simp) (fun b va vc w hw => ?hS) (fun b v' X1 d1 h1 h2 _ => ?hr)
        case h1 =>
          intro u hu
          simp only [List.mem_cons, List.not_mem_nil, or_false] at hu
          rcases hu with rfl | rfl | rfl <;> rfl
        case hS =>
          go_simp
        case hr =>
          have HT2 := Lib.hid h2
          have HO2 := Lib.hid h1
          clear h1 h2
          simp only [Act.put, List.setIfInBounds_toArray]
          go_wp2
          refine ⟨⟨k + 1, v', by omega, by first | rfl | go_num, (by repeat (first | exact Below.refl _ _ | refine Below.drew ?_ | refine Below.alloc ?_ (by first | exact Nat.le_refl _ | (simp; done) | (simp; omega) | omega) _ | refine Below.more ?_ (by first | exact Nat.le_refl _ | (simp; done) | (simp; omega) | omega) _ _ | refine Below.setCell ?_ (by first | exact Nat.le_refl _ | (simp; done) | (simp; omega) | omega) _ | assumption)), by simpa using HT2.out, ?_⟩, by simp only [intOf]; omega⟩
          rw [HL1.out, vecVals_snoc]
          exact HO2.out
      · have hk1 : ¬ (k : Int) < (p.nV : Int) := by omega
        have HOW := Lib.hid (show wr.ownsRow wq.heap.size 43 3 vs (p.nV + 0) (vecVals (((List.range p.nV).map fun z : Nat => vpD p (z : Int)) ++ (L.take 0).map (epD p))) from by have h := HOWN.out; rw [show k = p.nV from by omega] at h; simpa using h)
        have HB2 := Lib.hid hbr
        have HLVN := Lib.hid (HLN.out p.nV)
        have HSV := Lib.hid (show subVs p = (((List.range p.nV).map fun z : Nat => vpD p (z : Int)) ++ L.map (epD p)) ++ (List.range p.nF).map fun z : Nat => fpD p (z : Int) from by unfold subVs; rw [HLL.out])
        generalize ((List.range p.nV).map fun z : Nat => vpD p (z : Int)) = LV at *
        clear HOWN
        go_wp2
        go_loopw [60] (fun i wr => ∃ (k : Nat) (vs : Value), k ≤ L.length ∧ i = .int .i64 k ∧ Below wq.heap.size wq wr ∧ wr.heap[T]? = some (.cells #[vs, .slice none 0 0] 29 (0, 0)) ∧ wr.ownsRow wq.heap.size 43 3 vs (p.nV + k) (vecVals (LV ++ (L.take k).map (epD p)))) (fun i _ => L.length - (intOf i).toNat)
        case atStart => exact ⟨0, _, by omega, rfl, HB2.out, HTR.out, HOW.out⟩
        case round =>
          clear HB2 HTR HOW
          obtain ⟨k, vs, hk, rfl, hbr, hTr, hown⟩ := hrel
          have HOWN := Lib.hid hown
          have HTR := Lib.hid hTr
          have hTl := (Array.getElem?_eq_some_iff.1 hTr).1
          clear hown hTr
          by_cases hlt : k < L.length
          · have hk1 : (k : Int) < (L.length : Int) := by omega
            obtain ⟨g, cap2, u, hv, _, hg, hu, d0, d1, d2⟩ := HO.out.read (i := k) hlt
            simp only [Value.slice.injEq] at hv
            obtain ⟨rfl, _, rfl⟩ := hv
            have HEK := Lib.hid (HEP.out (L.getD k (0, 0)) (by rw [List.getD_eq_getElem?_getD, List.getElem?_eq_getElem hlt]; exact List.getElem_mem hlt))
            have HL1 := Lib.hid (show (L.take (k + 1)).map (epD p) = (L.take k).map (epD p) ++ [epD p (L.getD k (0, 0))] from by rw [List.take_add_one, List.getElem?_eq_getElem hlt, List.getD_eq_getElem?_getD, List.getElem?_eq_getElem hlt]; simp only [List.map_append]; rfl)
            generalize (L.take k).map (epD p) = Lk at *
            generalize L.getD k (0, 0) = pr at *
            generalize epD p pr = uu at *
            obtain ⟨u0, u1, u2⟩ := uu
            obtain ⟨e1, e2⟩ := pr
            dsimp only at d1 d2 HEK
            obtain ⟨i0, hi, hz0, hz1, hz2⟩ := info_parts info_VecA
            obtain ⟨X0, d0', rfl⟩ := Below.ext hbr
            go_wp2
            refine region_app4 [0, 1, 2, 3, 4, 5, 6, 7, 8, 9] [10, 11, 12, 13] 13 29 [vs, .slice none 0 0] 0 43 3 vs (p.nV + k) 1 _ [.int .i64 u0, .int .i64 u1, .int .i64 u2] (carried_true _ _ T) (by kernel_rfl) (by kernel_rfl) HOWN.out HTR.out trivial ?_
            refine headP_step rfl (fun K hK => ?_)
            go_simp
            first
              | refine ⟨_, fun zt ht => rfl, hK _ ?_⟩
              | refine ⟨vs, fun zt ht => (by have c := cell_at (j := 0) ht rfl; simp [c, Result.andThen]), hK _ ?_⟩
              | refine ⟨_, fun zt ht => calls_stays (HEK.out _ (HBQ.out.trans (by repeat (first | exact Below.refl _ _ | refine Below.drew ?_ | refine Below.alloc ?_ (by first | exact Nat.le_refl _ | (simp; done) | (simp; omega) | omega) _ | refine Below.more ?_ (by first | exact Nat.le_refl _ | (simp; done) | (simp; omega) | omega) _ _ | refine Below.setCell ?_ (by first | exact Nat.le_refl _ | (simp; done) | (simp; omega) | omega) _ | assumption)))), hK _ ?_⟩
            clear hK K
            refine headP_step rfl (fun K hK => ?_)
            go_simp
            first
              | refine ⟨_, fun zt ht => rfl, hK _ ?_⟩
              | refine ⟨vs, fun zt ht => (by have c := cell_at (j := 0) ht rfl; simp [c, Result.andThen]), hK _ ?_⟩
              | refine ⟨_, fun zt ht => calls_stays (HEK.out _ (HBQ.out.trans (by repeat (first | exact Below.refl _ _ | refine Below.drew ?_ | refine Below.alloc ?_ (by first | exact Nat.le_refl _ | (simp; done) | (simp; omega) | omega) _ | refine Below.more ?_ (by first | exact Nat.le_refl _ | (simp; done) | (simp; omega) | omega) _ _ | refine Below.setCell ?_ (by first | exact Nat.le_refl _ | (simp; done) | (simp; omega) | omega) _ | assumption)))), hK _ ?_⟩
            clear hK K
            refine headP_step rfl (fun K hK => ?_)
            go_simp
            first
              | refine ⟨_, fun zt ht => rfl, hK _ ?_⟩
              | refine ⟨vs, fun zt ht => (by have c := cell_at (j := 0) ht rfl; simp [c, Result.andThen]), hK _ ?_⟩
              | refine ⟨_, fun zt ht => calls_stays (HEK.out _ (HBQ.out.trans (by repeat (first | exact Below.refl _ _ | refine Below.drew ?_ | refine Below.alloc ?_ (by first | exact Nat.le_refl _ | (simp; done) | (simp; omega) | omega) _ | refine Below.more ?_ (by first | exact Nat.le_refl _ | (simp; done) | (simp; omega) | omega) _ _ | refine Below.setCell ?_ (by first | exact Nat.le_refl _ | (simp; done) | (simp; omega) | omega) _ | assumption)))), hK _ ?_⟩
            clear hK K
            refine headP_step rfl (fun K hK => ?_)
            go_simp
            first
              | refine ⟨_, fun zt ht => rfl, hK _ ?_⟩
              | refine ⟨vs, fun zt ht => (by have c := cell_at (j := 0) ht rfl; simp [c, Result.andThen]), hK _ ?_⟩
              | refine ⟨_, fun zt ht => calls_stays (HEK.out _ (HBQ.out.trans (by repeat (first | exact Below.refl _ _ | refine Below.drew ?_ | refine Below.alloc ?_ (by first | exact Nat.le_refl _ | (simp; done) | (simp; omega) | omega) _ | refine Below.more ?_ (by first | exact Nat.le_refl _ | (simp; done) | (simp; omega) | omega) _ _ | refine Below.setCell ?_ (by first | exact Nat.le_refl _ | (simp; done) | (simp; omega) | omega) _ | assumption)))), hK _ ?_⟩
            clear hK K
            refine headP_step rfl (fun K hK => ?_)
            go_simp
            first
              | refine ⟨_, fun zt ht => rfl, hK _ ?_⟩
              | refine ⟨vs, fun zt ht => (by have c := cell_at (j := 0) ht rfl; simp [c, Result.andThen]), hK _ ?_⟩
              | refine ⟨_, fun zt ht => calls_stays (HEK.out _ (HBQ.out.trans (by repeat (first | exact Below.refl _ _ | refine Below.drew ?_ | refine Below.alloc ?_ (by first | exact Nat.le_refl _ | (simp; done) | (simp; omega) | omega) _ | refine Below.more ?_ (by first | exact Nat.le_refl _ | (simp; done) | (simp; omega) | omega) _ _ | refine Below.setCell ?_ (by first | exact Nat.le_refl _ | (simp; done) | (simp; omega) | omega) _ | assumption)))), hK _ ?_⟩
            clear hK K
            refine headP_step rfl (fun K hK => ?_)
            go_simp
            first
              | refine ⟨_, fun zt ht => rfl, hK _ ?_⟩
              | refine ⟨vs, fun zt ht => (by have c := cell_at (j := 0) ht rfl; simp [c, Result.andThen]), hK _ ?_⟩
              | refine ⟨_, fun zt ht => calls_stays (HEK.out _ (HBQ.out.trans (by repeat (first | exact Below.refl _ _ | refine Below.drew ?_ | refine Below.alloc ?_ (by first | exact Nat.le_refl _ | (simp; done) | (simp; omega) | omega) _ | refine Below.more ?_ (by first | exact Nat.le_refl _ | (simp; done) | (simp; omega) | omega) _ _ | refine Below.setCell ?_ (by first | exact Nat.le_refl _ | (simp; done) | (simp; omega) | omega) _ | assumption)))), hK _ ?_⟩
            clear hK K
            refine headP_step rfl (fun K hK => ?_)
            go_simp
            first
              | refine ⟨_, fun zt ht => rfl, hK _ ?_⟩
              | refine ⟨vs, fun zt ht => (by have c := cell_at (j := 0) ht rfl; simp [c, Result.andThen]), hK _ ?_⟩
              | refine ⟨_, fun zt ht => calls_stays (HEK.out _ (HBQ.out.trans (by repeat (first | exact Below.refl _ _ | refine Below.drew ?_ | refine Below.alloc ?_ (by first | exact Nat.le_refl _ | (simp; done) | (simp; omega) | omega) _ | refine Below.more ?_ (by first | exact Nat.le_refl _ | (simp; done) | (simp; omega) | omega) _ _ | refine Below.setCell ?_ (by first | exact Nat.le_refl _ | (simp; done) | (simp; omega) | omega) _ | assumption)))), hK _ ?_⟩
            clear hK K
            refine headP_step rfl (fun K hK => ?_)
            go_simp
            first
              | refine ⟨_, fun zt ht => rfl, hK _ ?_⟩
              | refine ⟨vs, fun zt ht => (by have c := cell_at (j := 0) ht rfl; simp [c, Result.andThen]), hK _ ?_⟩
              | refine ⟨_, fun zt ht => calls_stays (HEK.out _ (HBQ.out.trans (by repeat (first | exact Below.refl _ _ | refine Below.drew ?_ | refine Below.alloc ?_ (by first | exact Nat.le_refl _ | (simp; done) | (simp; omega) | omega) _ | refine Below.more ?_ (by first | exact Nat.le_refl _ | (simp; done) | (simp; omega) | omega) _ _ | refine Below.setCell ?_ (by first | exact Nat.le_refl _ | (simp; done) | (simp; omega) | omega) _ | assumption)))), hK _ ?_⟩
            clear hK K
            refine headP_step rfl (fun K hK => ?_)
            go_simp
            first
              | refine ⟨_, fun zt ht => rfl, hK _ ?_⟩
              | refine ⟨vs, fun zt ht => (by have c := cell_at (j := 0) ht rfl; simp [c, Result.andThen]), hK _ ?_⟩
              | refine ⟨_, fun zt ht => calls_stays (HEK.out _ (HBQ.out.trans (by repeat (first | exact Below.refl _ _ | refine Below.drew ?_ | refine Below.alloc ?_ (by first | exact Nat.le_refl _ | (simp; done) | (simp; omega) | omega) _ | refine Below.more ?_ (by first | exact Nat.le_refl _ | (simp; done) | (simp; omega) | omega) _ _ | refine Below.setCell ?_ (by first | exact Nat.le_refl _ | (simp; done) | (simp; omega) | omega) _ | assumption)))), hK _ ?_⟩
            clear hK K
            refine headP_step rfl (fun K hK => ?_)
            go_simp
            first
              | refine ⟨_, fun zt ht => rfl, hK _ ?_⟩
              | refine ⟨vs, fun zt ht => (by have c := cell_at (j := 0) ht rfl; simp [c, Result.andThen]), hK _ ?_⟩
              | refine ⟨_, fun zt ht => calls_stays (HEK.out _ (HBQ.out.trans (by repeat (first | exact Below.refl _ _ | refine Below.drew ?_ | refine Below.alloc ?_ (by first | exact Nat.le_refl _ | (simp; done) | (simp; omega) | omega) _ | refine Below.more ?_ (by first | exact Nat.le_refl _ | (simp; done) | (simp; omega) | omega) _ _ | refine Below.setCell ?_ (by first | exact Nat.le_refl _ | (simp; done) | (simp; omega) | omega) _ | assumption)))), hK _ ?_⟩
            clear hK K
            refine headP_nil ?_
            refine tail_app4 (t := 27) (u := .pointer (some ⟨T, 0, none⟩)) (carried_true _ _ T) hT (by decide) rfl rfl rfl rfl _ _ (by go_simp) (fun w => by go_simp) (fun b => by go_simp) rfl Tryz.underlying27 hi hz0 hz1 hz2 rfl (by decide) (fun b => by first | rfl | go_simp) (fun b => by first | rfl | go_simp) rfl ?g1 (by simp only [maxLen]; omega) (by omega) (fun b v' => by go_simp) (fun b v' w => by go_simp) (fun b v' => by go_simp) (fun b va vc w hw => ?gS) (fun b v' X1 d1' h1 h2 _ => ?gr)
            case g1 =>
              intro u hu
              simp only [List.mem_cons, List.not_mem_nil, or_false] at hu
              rcases hu with rfl | rfl | rfl <;> rfl
            case gS =>
              go_simp
            case gr =>
              have HT2 := Lib.hid h2
              have HO2 := Lib.hid h1
              clear h1 h2
              simp only [Act.put, List.setIfInBounds_toArray]
              go_wp2
              refine ⟨⟨k + 1, v', by omega, by first | rfl | go_num, (by repeat (first | exact Below.refl _ _ | refine Below.drew ?_ | refine Below.alloc ?_ (by first | exact Nat.le_refl _ | (simp; done) | (simp; omega) | omega) _ | refine Below.more ?_ (by first | exact Nat.le_refl _ | (simp; done) | (simp; omega) | omega) _ _ | refine Below.setCell ?_ (by first | exact Nat.le_refl _ | (simp; done) | (simp; omega) | omega) _ | assumption)), by simpa using HT2.out, ?_⟩, by simp only [intOf]; omega⟩
              rw [HL1.out, ← List.append_assoc, vecVals_snoc]
              exact HO2.out
          · have hk1 : ¬ (k : Int) < (L.length : Int) := by omega
            have HOW := Lib.hid (show wr.ownsRow wq.heap.size 43 3 vs (p.nV + L.length + 0) (vecVals ((LV ++ L.map (epD p)) ++ (List.range 0).map fun z : Nat => fpD p (z : Int))) from by have h := HOWN.out; rw [show k = L.length from by omega, List.take_length] at h; simpa using h)
            have HB2 := Lib.hid hbr
            have HLEN := Lib.hid (show (LV ++ L.map (epD p)).length = p.nV + L.length from by rw [List.length_append, List.length_map, HLVN.out])
            generalize LV ++ L.map (epD p) = LE at *
            clear HOWN
            have n0 := cell_below (HB2.out) m0
            have n1 := cell_below (HB2.out) m1
            have hwr0 := World.block_lt_of_cell? _ _ n0
            have HFS := Lib.hid (show ∀ k, ((List.range (k + 1)).map fun z : Nat => fpD p (z : Int)) = ((List.range k).map fun z : Nat => fpD p (z : Int)) ++ [fpD p (k : Int)] from fun k => by rw [List.range_succ, List.map_append]; rfl)
            have HLE := Lib.hid (show ∀ k, (LE ++ (List.range k).map fun z : Nat => fpD p (z : Int)).length = p.nV + L.length + k from fun k => by rw [List.length_append, HLEN.out]; simp)
            have HFLN := Lib.hid (show ∀ k, ((List.range k).flatMap fun i => (List.range 4).map fun j => subFace p i j).length = 4 * k from fun n => by
              induction n with
              | zero => rfl
              | succ n ih => rw [List.range_succ (n := n), List.flatMap_append, List.length_append, ih]; simp; omega)
            go_wp2
            go_loopw [81] (fun i wr => ∃ (k : Nat) (vs fs : Value), k ≤ p.nF ∧ i = .int .i64 k ∧ Below wq.heap.size wq wr ∧ wr.heap[T]? = some (.cells #[vs, fs] 29 (0, 0)) ∧ wr.ownsRow wq.heap.size 43 3 vs (p.nV + L.length + k) (vecVals (LE ++ (List.range k).map fun z : Nat => fpD p (z : Int))) ∧ FacesT wq.heap.size (4 * k) fs ((List.range k).flatMap fun i => (List.range 4).map fun j => subFace p i j) wr) (fun i _ => p.nF - (intOf i).toNat)
            case atStart => exact ⟨0, _, _, by omega, rfl, HB2.out, HTR.out, HOW.out, fun _ => 0, World.ownsRow_nil _ _ _ _, fun i hi => absurd hi (Nat.not_lt_zero _), fun _ j _ hj => absurd hj (Nat.not_lt_zero _)⟩
            case round =>
              clear HB2 HTR HOW
              obtain ⟨k, vs, fs, hk, rfl, hbr, hTr, hown, hft⟩ := hrel
              have HOWN := Lib.hid hown
              have HTR := Lib.hid hTr
              have HFT := Lib.hid hft
              have hTl := (Array.getElem?_eq_some_iff.1 hTr).1
              clear hown hTr hft
              by_cases hlt : k < p.nF
              · have hk1 : (k : Int) < (p.nF : Int) := by omega
                have HEK := Lib.hid (HFP.out k hlt)
                rw [fpV_D] at HEK
                have HL1 := Lib.hid (HFS.out k)
                have HLE := Lib.hid (HLE.out k)
                have HFL1 := Lib.hid (show ((List.range (k + 1)).flatMap fun i => (List.range 4).map fun j => subFace p i j) = ((List.range k).flatMap fun i => (List.range 4).map fun j => subFace p i j) ++ (List.range 4).map (subFace p k) from by rw [List.range_succ (n := k), List.flatMap_append]; simp)
                obtain ⟨fb, fo, rfl, hfb, hfc⟩ := (HSA.out.below HBQ.out) (by omega)
                have g0 : wq.cell? ⟨fb, fo + k, none⟩ = some (.slice (FA k) 4 (FK k)) := by have := hfc k hlt 0 (by omega); rw [Nat.mul_one, Nat.add_zero] at this; rw [this, ← HF4.out k hlt]; rfl
                clear hfc
                obtain ⟨qb, qo, hqe, hqb, hqc⟩ := (HSB.out k hlt) (by rw [HF4.out k hlt]; decide)
                have HQC := Lib.hid (show ∀ t, t < 4 → wq.cell? ⟨qb, qo + t, none⟩ = some (.int .i64 ((faceAt p.faces k).getD t 0)) from fun t ht => cell_below HBQ.out (by have := hqc t (by rw [HF4.out k hlt]; exact ht) 0 (by omega); rw [Nat.mul_one, Nat.add_zero] at this; rw [this]; simp [intAt]))
                rw [hqe] at g0
                clear hqe hqc
                generalize ((List.range k).map fun z : Nat => fpD p (z : Int)) = Lk at *
                generalize fpD p (k : Int) = uu at *
                obtain ⟨u0, u1, u2⟩ := uu
                dsimp only at HEK
                obtain ⟨i0, hi, hz0, hz1, hz2⟩ := info_parts info_VecA
                obtain ⟨X0, d0', rfl⟩ := Below.ext hbr
                go_wp2
                refine region_app4 [0, 1, 2, 3, 4] [5, 6, 7, 8] 8 29 [vs, fs] 0 43 3 vs (p.nV + L.length + k) 1 _ [.int .i64 u0, .int .i64 u1, .int .i64 u2] (faces_carried _ _ T _ _) (by kernel_rfl) (by kernel_rfl) HOWN.out HTR.out HFT.out ?_
                refine headP_step rfl (fun K hK => ?_)
                go_simp
                first
                  | refine ⟨_, fun zt ht => rfl, hK _ ?_⟩
                  | refine ⟨vs, fun zt ht => (by have c := cell_at (j := 0) ht rfl; simp [c, Result.andThen]), hK _ ?_⟩
                  | refine ⟨_, fun zt ht => calls_stays (HEK.out _ (HBQ.out.trans (by repeat (first | exact Below.refl _ _ | refine Below.drew ?_ | refine Below.alloc ?_ (by first | exact Nat.le_refl _ | (simp; done) | (simp; omega) | omega) _ | refine Below.more ?_ (by first | exact Nat.le_refl _ | (simp; done) | (simp; omega) | omega) _ _ | refine Below.setCell ?_ (by first | exact Nat.le_refl _ | (simp; done) | (simp; omega) | omega) _ | assumption)))), hK _ ?_⟩
                clear hK K
                refine headP_step rfl (fun K hK => ?_)
                go_simp
                first
                  | refine ⟨_, fun zt ht => rfl, hK _ ?_⟩
                  | refine ⟨vs, fun zt ht => (by have c := cell_at (j := 0) ht rfl; simp [c, Result.andThen]), hK _ ?_⟩
                  | refine ⟨_, fun zt ht => calls_stays (HEK.out _ (HBQ.out.trans (by repeat (first | exact Below.refl _ _ | refine Below.drew ?_ | refine Below.alloc ?_ (by first | exact Nat.le_refl _ | (simp; done) | (simp; omega) | omega) _ | refine Below.more ?_ (by first | exact Nat.le_refl _ | (simp; done) | (simp; omega) | omega) _ _ | refine Below.setCell ?_ (by first | exact Nat.le_refl _ | (simp; done) | (simp; omega) | omega) _ | assumption)))), hK _ ?_⟩
                clear hK K
                refine headP_step rfl (fun K hK => ?_)
                go_simp
                first
                  | refine ⟨_, fun zt ht => rfl, hK _ ?_⟩
                  | refine ⟨vs, fun zt ht => (by have c := cell_at (j := 0) ht rfl; simp [c, Result.andThen]), hK _ ?_⟩
                  | refine ⟨_, fun zt ht => calls_stays (HEK.out _ (HBQ.out.trans (by repeat (first | exact Below.refl _ _ | refine Below.drew ?_ | refine Below.alloc ?_ (by first | exact Nat.le_refl _ | (simp; done) | (simp; omega) | omega) _ | refine Below.more ?_ (by first | exact Nat.le_refl _ | (simp; done) | (simp; omega) | omega) _ _ | refine Below.setCell ?_ (by first | exact Nat.le_refl _ | (simp; done) | (simp; omega) | omega) _ | assumption)))), hK _ ?_⟩
                clear hK K
                refine headP_step rfl (fun K hK => ?_)
                go_simp
                first
                  | refine ⟨_, fun zt ht => rfl, hK _ ?_⟩
                  | refine ⟨vs, fun zt ht => (by have c := cell_at (j := 0) ht rfl; simp [c, Result.andThen]), hK _ ?_⟩
                  | refine ⟨_, fun zt ht => calls_stays (HEK.out _ (HBQ.out.trans (by repeat (first | exact Below.refl _ _ | refine Below.drew ?_ | refine Below.alloc ?_ (by first | exact Nat.le_refl _ | (simp; done) | (simp; omega) | omega) _ | refine Below.more ?_ (by first | exact Nat.le_refl _ | (simp; done) | (simp; omega) | omega) _ _ | refine Below.setCell ?_ (by first | exact Nat.le_refl _ | (simp; done) | (simp; omega) | omega) _ | assumption)))), hK _ ?_⟩
                clear hK K
                refine headP_step rfl (fun K hK => ?_)
                go_simp
                first
                  | refine ⟨_, fun zt ht => rfl, hK _ ?_⟩
                  | refine ⟨vs, fun zt ht => (by have c := cell_at (j := 0) ht rfl; simp [c, Result.andThen]), hK _ ?_⟩
                  | refine ⟨_, fun zt ht => calls_stays (HEK.out _ (HBQ.out.trans (by repeat (first | exact Below.refl _ _ | refine Below.drew ?_ | refine Below.alloc ?_ (by first | exact Nat.le_refl _ | (simp; done) | (simp; omega) | omega) _ | refine Below.more ?_ (by first | exact Nat.le_refl _ | (simp; done) | (simp; omega) | omega) _ _ | refine Below.setCell ?_ (by first | exact Nat.le_refl _ | (simp; done) | (simp; omega) | omega) _ | assumption)))), hK _ ?_⟩
                clear hK K
                refine headP_nil ?_
                refine tail_app4 (t := 27) (u := .pointer (some ⟨T, 0, none⟩)) (faces_carried _ _ T _ _) hT (by decide) rfl rfl rfl rfl _ _ (by go_simp) (fun w => by go_simp) (fun b => by go_simp) rfl Tryz.underlying27 hi hz0 hz1 hz2 rfl (by decide) (fun b => by first | rfl | go_simp) (fun b => by first | rfl | go_simp) rfl ?k1 (by simp only [maxLen]; omega) (by omega) (fun b v' => by go_simp) (fun b v' w => by go_simp) (fun b v' => by go_simp) (fun b va vc w hw => ?kS) (fun b v' X1 d1' h1 h2 h3 => ?kr)
                case k1 =>
                  intro u hu
                  simp only [List.mem_cons, List.not_mem_nil, or_false] at hu
                  rcases hu with rfl | rfl | rfl <;> rfl
                case kS =>
                  go_simp
                case kr =>
                  have HT2 := Lib.hid h2
                  have HO2 := Lib.hid h1
                  have HF2 := Lib.hid h3
                  clear h1 h2 h3
                  simp only [Act.put, List.setIfInBounds_toArray]
                  obtain ⟨wr, hwr⟩ : ∃ wr, wr = more wq X1 d1' := ⟨_, rfl⟩
                  have hbr2 : Below wq.heap.size wq wr := by rw [hwr]; exact (by repeat (first | exact Below.refl _ _ | refine Below.drew ?_ | refine Below.alloc ?_ (by first | exact Nat.le_refl _ | (simp; done) | (simp; omega) | omega) _ | refine Below.more ?_ (by first | exact Nat.le_refl _ | (simp; done) | (simp; omega) | omega) _ _ | refine Below.setCell ?_ (by first | exact Nat.le_refl _ | (simp; done) | (simp; omega) | omega) _ | assumption))
                  have HST : Hid (SubT wq.heap.size T (LE ++ (Lk ++ [⟨u0, u1, u2⟩])) ((List.range k).flatMap fun i => (List.range 4).map fun j => subFace p i j) v' fs wr) := Lib.hid (by
                    rw [hwr]
                    refine ⟨by simpa using HT2.out, ?_, by rw [HFLN.out k]; exact HF2.out⟩
                    rw [← List.append_assoc, vecVals_snoc, show ((LE ++ Lk) ++ [(⟨u0, u1, u2⟩ : VecD)]).length = p.nV + L.length + k + 1 from by rw [List.length_append, HLE.out, List.length_singleton]]
                    exact HO2.out)
                  rw [← hwr]
                  clear hwr HT2 HO2 HF2
                  go_wp2
                  go_loopw [96] (fun i wr => ∃ (j : Nat) (fs : Value), j ≤ 4 ∧ i = .int .i64 j ∧ Below wq.heap.size wq wr ∧ SubT wq.heap.size T (LE ++ (Lk ++ [⟨u0, u1, u2⟩])) (((List.range k).flatMap fun i => (List.range 4).map fun j => subFace p i j) ++ (List.range j).map (subFace p k)) v' fs wr) (fun i _ => 4 - (intOf i).toNat)
                  case atStart => exact ⟨0, _, by omega, rfl, hbr2, by simpa using HST.out⟩
                  case round =>
                    obtain ⟨j, fs, hj, rfl, hbr3, hst⟩ := hrel
                    have HS3 := Lib.hid hst
                    have HBR3 := Lib.hid hbr3
                    have hb3s := hbr3.size
                    have hTr3 := (Array.getElem?_eq_some_iff.1 hst.box).1
                    by_cases hlt4 : j < 4
                    · have hj1 : (j : Int) < 4 := by omega
                      have HFFL := Lib.hid (show (((List.range k).flatMap fun i => (List.range 4).map fun j => subFace p i j) ++ (List.range j).map (subFace p k)).length = 4 * k + j from by rw [List.length_append, HFLN.out k]; simp)
                      have HFFN := Lib.hid (show ((List.range k).flatMap fun i => (List.range 4).map fun j => subFace p i j) ++ (List.range (j + 1)).map (subFace p k) = (((List.range k).flatMap fun i => (List.range 4).map fun j => subFace p i j) ++ (List.range j).map (subFace p k)) ++ [subFace p k j] from by rw [List.range_succ (n := j), List.map_append, List.append_assoc]; rfl)
                      generalize (((List.range k).flatMap fun i => (List.range 4).map fun j => subFace p i j) ++ (List.range j).map (subFace p k)) = FF at *
                      obtain ⟨j1, hj1e⟩ : ∃ t, t = (j + 1) % 4 := ⟨_, rfl⟩
                      obtain ⟨j3, hj3e⟩ : ∃ t, t = (j + 3) % 4 := ⟨_, rfl⟩
                      have HM1 := Lib.hid (hj1e ▸ step_next (s := p.faces) (k := p.nF) hlt hlt4 (HF4.out k hlt))
                      have HM3 := Lib.hid (hj3e ▸ step_last (s := p.faces) (k := p.nF) hlt hlt4 (HF4.out k hlt))
                      have HSF := Lib.hid (show subFace p k j = [(faceAt p.faces k).getD j 0, ((p.nV + placeE (edgesL p.faces p.nF) (und ((faceAt p.faces k).getD j 0, (faceAt p.faces k).getD j1 0)) : Nat) : Int), ((p.nV + (edgesL p.faces p.nF).length + k : Nat) : Int), ((p.nV + placeE (edgesL p.faces p.nF) (und ((faceAt p.faces k).getD j 0, (faceAt p.faces k).getD j3 0)) : Nat) : Int)] by rw [hj1e, hj3e]; simp only [subFace, Int.natCast_add])
                      rw [HLL.out] at HM1 HM3 HSF
                      have f0 : wr.cell? ⟨qb, qo + j, none⟩ = some (.int .i64 ((faceAt p.faces k).getD j 0)) := cell_below hbr3 (HQC.out j hlt4)
                      have f1 : wr.cell? ⟨qb, qo + j1, none⟩ = some (.int .i64 ((faceAt p.faces k).getD j1 0)) := cell_below hbr3 (HQC.out j1 (by omega))
                      have f3 : wr.cell? ⟨qb, qo + j3, none⟩ = some (.int .i64 ((faceAt p.faces k).getD j3 0)) := cell_below hbr3 (HQC.out j3 (by omega))
                      have hq0 : qb < wr.heap.size := World.block_lt_of_cell? _ _ f0
                      have m1 : ((j : Int) + 1).tmod 4 = (j1 : Int) := by rw [Int.tmod_eq_emod_of_nonneg (by omega)]; omega
                      have m1' : ((j : Int) + 1) % 4 = (j1 : Int) := by omega
                      have m3 : ((j : Int) + 3).tmod 4 = (j3 : Int) := by rw [Int.tmod_eq_emod_of_nonneg (by omega)]; omega
                      have m3' : ((j : Int) + 3) % 4 = (j3 : Int) := by omega
                      have l1 : (j1 : Int) < 4 := by omega
                      have l3 : (j3 : Int) < 4 := by omega
                      have hpl1 := placeE_lt HM1.out
                      have hpl3 := placeE_lt HM3.out
                      generalize (faceAt p.faces k).getD j 0 = x0 at *
                      generalize (faceAt p.faces k).getD j1 0 = x1 at *
                      generalize (faceAt p.faces k).getD j3 0 = x3 at *
                      have HP1 := Lib.hid (fun W (hb : Below wq.heap.size wq W) => l07Place_c ea ec _ _ L EA x0 x1 W (HO.out.below hb) HM1.out (by omega))
                      have HP3 := Lib.hid (fun W (hb : Below wq.heap.size wq W) => l07Place_c ea ec _ _ L EA x0 x3 W (HO.out.below hb) HM3.out (by omega))
                      generalize placeE L (und (x0, x1)) = q1 at *
                      generalize placeE L (und (x0, x3)) = q3 at *
                      clear hj1e hj3e hbr3 hst
                      have HSQ := Lib.hid (show subFace p k j = [x0, (p.nV : Int) + (q1 : Int), (p.nV : Int) + (L.length : Int) + (k : Int), (p.nV : Int) + (q3 : Int)] from by rw [HSF.out]; simp only [Int.natCast_add])
                      clear HSF
                      have hw1 : IntKind.i64.wrap ((p.nV : Int) + (q1 : Int)) = ((p.nV + q1 : Nat) : Int) := by rw [IntWalk.i64_in _ (by omega)]; omega
                      have hw3 : IntKind.i64.wrap ((p.nV : Int) + (q3 : Int)) = ((p.nV + q3 : Nat) : Int) := by rw [IntWalk.i64_in _ (by omega)]; omega
                      go_wp2_with fail
                      refine (HP1.out _ HBR3.out).mono ?_
                      rintro e wz1 ⟨rfl, hbz1⟩
                      have HBZ1 := Lib.hid hbz1
                      have F0 := cell_below hbz1 f0
                      have F3 := cell_below hbz1 f3
                      have hz1 := hbz1.size
                      clear hbz1
                      go_wp2_with fail
                      refine (HP3.out _ (HBR3.out.trans (HBZ1.out.mono hb3s))).mono ?_
                      rintro e wz2 ⟨rfl, hbz2⟩
                      have HBZ2 := Lib.hid (HBZ1.out.trans (hbz2.mono hz1))
                      have G0 := cell_below hbz2 F0
                      have hz2 := hbz2.size
                      have HS5 := Lib.hid (HS3.out.below HBZ2.out)
                      have t1 := cell_at (j := 1) HS5.out.box rfl
                      have hT5 : T < wz2.heap.size := by omega
                      have hG0 := World.block_lt_of_cell? _ _ G0
                      clear hbz2
                      go_wp2_with (at_builtin; go_loud (refine wp_app_face (w0 := wz2) rfl _ _ rfl wq.heap.size _ fs _ rfl rfl HS5.out.fac ?b0 ?b1 wz2.heap.size (wz2.heap.size + 1) 1 (subFace p k j) (by rw [HSQ.out]; rfl) (Nat.le_refl _) ?b2 rfl ?b3 ?b4 ?_))
                      case b0 => exact (by repeat (first | exact Below.refl _ _ | refine Below.drew ?_ | refine Below.alloc ?_ (by first | exact Nat.le_refl _ | (simp; done) | (simp; omega) | omega) _ | refine Below.more ?_ (by first | exact Nat.le_refl _ | (simp; done) | (simp; omega) | omega) _ _ | refine Below.setCell ?_ (by first | exact Nat.le_refl _ | (simp; done) | (simp; omega) | omega) _ | assumption))
                      case b1 => omega
                      case b2 =>
                        rw [HSQ.out]
                        first
                          | exact (heap_alloc_old _ _ (by simp)).trans (heap_alloc_new _ _)
                          | exact (heap_alloc_old _ _ (by simp)).trans (heap_at_new (by simp))
                          | (simp; done)
                      case b3 =>
                        first
                          | (simp [go_sem]; done)
                      case b4 => have := HFFL.out; omega
                      intro v5 w5 hf5 hg5
                      obtain ⟨fa5, fc5, rfl⟩ : ∃ fa fc, v5 = .slice fa (FF.length + 1) fc := by
                        obtain ⟨_, h1, _, _⟩ := hf5
                        exact own_shape h1
                      have HS6 : Hid (SubT1 wq.heap.size T (LE ++ (Lk ++ [⟨u0, u1, u2⟩])) (FF ++ [subFace p k j]) v' fs (.slice fa5 (FF.length + 1) fc5) w5) := Lib.hid (by
                        refine SubT.grown (HS5.out.below ?_) hg5 ?_
                        · exact (by repeat (first | exact Below.refl _ _ | refine Below.drew ?_ | refine Below.alloc ?_ (by first | exact Nat.le_refl _ | (simp; done) | (simp; omega) | omega) _ | refine Below.more ?_ (by first | exact Nat.le_refl _ | (simp; done) | (simp; omega) | omega) _ _ | refine Below.setCell ?_ (by first | exact Nat.le_refl _ | (simp; done) | (simp; omega) | omega) _ | assumption))
                        · rw [List.length_append, List.length_singleton]; exact hf5)
                      have HB6 : Hid (Below wq.heap.size wq w5) := Lib.hid (by
                        refine Below.grown (?_ : Below wq.heap.size wq _) hg5 ?_ ?_
                        · exact (HBR3.out.trans (HBZ2.out.mono hb3s)).trans (by repeat (first | exact Below.refl _ _ | refine Below.drew ?_ | refine Below.alloc ?_ (by first | exact Nat.le_refl _ | (simp; done) | (simp; omega) | omega) _ | refine Below.more ?_ (by first | exact Nat.le_refl _ | (simp; done) | (simp; omega) | omega) _ _ | refine Below.setCell ?_ (by first | exact Nat.le_refl _ | (simp; done) | (simp; omega) | omega) _ | assumption))
                        · simp; omega
                        · intro q hq
                          obtain ⟨_, h1, _, _⟩ := HS5.out.fac
                          exact (own_row h1 q hq).1)
                      have T1 := cell_at (j := 1) HS6.out.box rfl
                      have Z1 := frozen_at (j := 1) HS6.out.box
                      have hT6 := (Array.getElem?_eq_some_iff.1 HS6.out.box).1
                      clear hf5 hg5
                      go_wp2
                      refine ⟨⟨j + 1, .slice fa5 (FF.length + 1) fc5, by omega, by first | rfl | go_num, HB6.out.setCell hT _, ?_⟩, by simp only [intOf]; omega⟩
                      have h := HS6.out.put
                      rw [← HFFN.out] at h
                      exact h
                    · obtain rfl : j = 4 := by omega
                      go_wp2
                      refine ⟨⟨k + 1, v', fs, by omega, by first | rfl | go_num, HBR3.out, HS3.out.box, ?_, ?_⟩, by simp only [intOf]; omega⟩
                      · have h := HS3.out.own
                        rw [show (LE ++ (Lk ++ [(⟨u0, u1, u2⟩ : VecD)])).length = p.nV + L.length + (k + 1) from by rw [← List.append_assoc, List.length_append, HLE.out, List.length_singleton]; omega] at h
                        rw [HL1.out]; exact h
                      · have h := HS3.out.fac
                        rw [← HFL1.out, HFLN.out (k + 1)] at h
                        exact h
              · have hk1 : ¬ (k : Int) < (p.nF : Int) := by omega
                obtain ⟨va, vc, rfl⟩ := own_shape HOWN.out
                obtain ⟨fa, fc, rfl⟩ : ∃ fa fc, fs = .slice fa (4 * k) fc := by
                  obtain ⟨Bf, hf1, _, _⟩ := HFT.out
                  exact own_shape hf1
                have t0 := cell_at (j := 0) HTR.out rfl
                have t1 := cell_at (j := 1) HTR.out rfl
                have R0 := cell_below hbr r0
                have R1 := cell_below hbr r1
                have Z0 := frozen_below hbr r0 z0
                have Z1 := frozen_below hbr r1 z1
                have HBR := Lib.hid hbr
                have hwr1 := World.block_lt_of_cell? _ _ R0
                clear hbr
                go_wp2
                refine bodyPost_ret (v := .tuple #[.agg #[.slice va (p.nV + L.length + k) vc, .slice fa (4 * k) fc], .bool true]) (by simp [results, Tryz.results6, go_sem, R0, R1]) rfl ⟨_, _, rfl, ?_, ?_, Below.trans (HBQ.out.trans (HBR.out.mono HBQ.out.size)) (by repeat (first | exact Below.refl _ _ | refine Below.drew ?_ | refine Below.alloc ?_ (by first | exact Nat.le_refl _ | (simp; done) | (simp; omega) | omega) _ | refine Below.more ?_ (by first | exact Nat.le_refl _ | (simp; done) | (simp; omega) | omega) _ _ | refine Below.setCell ?_ (by first | exact Nat.le_refl _ | (simp; done) | (simp; omega) | omega) _ | assumption))⟩
                · obtain rfl : k = p.nF := by omega
                  rw [HSV.out, HLE.out p.nF]
                  exact own_base (own_chg HOWN.out (chg_set2 _ _ _ _) (by omega)) (by omega)
                · obtain rfl : k = p.nF := by omega
                  rw [show subFs p = (List.range p.nF).flatMap fun i => (List.range 4).map fun j => subFace p i j from rfl, HFLN.out p.nF]
                  exact FacesT.base (FacesT.chg HFT.out (chg_set2 _ _ _ _) (by omega)) (by omega)
end Go.Proofs.YtpfmcobkfofbjaaGreat
