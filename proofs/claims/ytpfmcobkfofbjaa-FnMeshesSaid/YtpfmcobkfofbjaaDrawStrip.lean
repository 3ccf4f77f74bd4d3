/- A strip of faces is drawn. -/
import Derived.Test.YtpfmcobkfofbjaaDrawMesh
import Derived.Test.YtpfmcobkfofbjaaApp6
namespace Go.Proofs.Ytpfmcobkfofbjaa
open Go Go.RowKit
theorem chg_under {w0 w w' : World} {lo hi b : Nat} (h : Chg lo hi w0 w) (hb : Below b w w') (hg : w0.heap.size ≤ b) : Chg lo hi w0 w' :=
  ⟨hb.os.trans h.os, hb.tape.trans h.tape, hb.output.trans h.output, Nat.le_trans h.size hb.size, fun j hj ho => (hb.block j (by omega)).trans (h.block j hj ho)⟩
theorem stripF_len (n : Nat) : (stripF n).length = n := by simp [stripF]
theorem stripF_snoc (n : Nat) : stripF (n + 1) = stripF n ++ [[2 * (n : Int), 2 * (n : Int) + 2, 2 * (n : Int) + 3, 2 * (n : Int) + 1]] := by
  unfold stripF
  rw [List.range_succ, List.map_append]
  rfl
theorem strip_sm {i k : Nat} {x y z : Int} (hi : i ≤ 3) (hk : k < 2) (x1 : 0 ≤ x) (x2 : x < 9) (y1 : 0 ≤ y) (y2 : y < 9) (z1 : 0 ≤ z) (z2 : z < 60) :
    VSm ⟨IntKind.i64.wrap (IntKind.i64.wrap (IntKind.i64.wrap ((i : Int) * 40) - 60) + x), IntKind.i64.wrap (IntKind.i64.wrap (IntKind.i64.wrap ((k : Int) * 50) - 20) + y), IntKind.i64.wrap (90 + z)⟩ := by
  rw [wrap_sm (a := (i : Int) * 40) (by omega), wrap_sm (a := (i : Int) * 40 - 60) (by omega), wrap_sm (a := (i : Int) * 40 - 60 + x) (by omega), wrap_sm (a := (k : Int) * 50) (by omega), wrap_sm (a := (k : Int) * 50 - 20) (by omega), wrap_sm (a := (k : Int) * 50 - 20 + y) (by omega), wrap_sm (a := 90 + z) (by omega)]
  exact ⟨by simp only; omega, by simp only; omega, by simp only; omega⟩
set_option maxRecDepth 100000 in
set_option maxHeartbeats 8000000 in
theorem l06Strip_c (g : Nat) (w : World) (h : Cur w g) : Calls Try.prog 35 #[.pointer (some ⟨g, 0, none⟩)] w (MeshQ g w) := by
  have hlt := h.lt
  have HC := Lib.hid h
  clear h
  obtain ⟨i0, hi, hz0, hz1, hz2⟩ := info_parts info_VecA
  go_enter Try.func35, Try.ntmps35
  go_wp2_with (go_at_call 55
               refine (l01Below_c g 3 _ (HC.out.below (by repeat (first | exact Below.refl _ _ | refine Below.drew ?_ | refine Below.alloc ?_ (by first | exact Nat.le_refl _ | (simp; done) | (simp; omega) | omega) _ | refine Below.more ?_ (by first | exact Nat.le_refl _ | (simp; done) | (simp; omega) | omega) _ _ | refine Below.setCell ?_ (by first | exact Nat.le_refl _ | (simp; done) | (simp; omega) | omega) _ | assumption))) (by omega) (by omega)).mono ?_
               rintro e wa ⟨nx, n1, n2, rfl, s⟩
               have HI0 := Lib.hid (DrJ.step (g := g) (B2 := w.heap.size) (T := w.heap.size + 1) (base := w.heap.size + 1 + 1) (k := 0) (L := []) (vs := .slice none 0 0) (c0 := .slice none 0 0) (w0 := w)
                 ⟨HC.out.below (by repeat (first | exact Below.refl _ _ | refine Below.drew ?_ | refine Below.alloc ?_ (by first | exact Nat.le_refl _ | (simp; done) | (simp; omega) | omega) _ | refine Below.more ?_ (by first | exact Nat.le_refl _ | (simp; done) | (simp; omega) | omega) _ _ | refine Below.setCell ?_ (by first | exact Nat.le_refl _ | (simp; done) | (simp; omega) | omega) _ | assumption)), heap_at_new (by simp), (heap_alloc_old _ _ (by simp)).trans (heap_alloc_new _ _), World.ownsRow_nil _ _ _ _, Chg.of_below (by repeat (first | exact Below.refl _ _ | refine Below.drew ?_ | refine Below.alloc ?_ (by first | exact Nat.le_refl _ | (simp; done) | (simp; omega) | omega) _ | refine Below.more ?_ (by first | exact Nat.le_refl _ | (simp; done) | (simp; omega) | omega) _ _ | refine Below.setCell ?_ (by first | exact Nat.le_refl _ | (simp; done) | (simp; omega) | omega) _ | assumption)), rfl, (fun u hu => by cases hu), hlt, by omega, by omega, rfl⟩ s)
               clear s
               obtain ⟨n, h1n, hn3, hnw⟩ : ∃ n : Nat, 1 ≤ n ∧ n ≤ 3 ∧ IntKind.i64.wrap (1 + nx) = (n : Int) := ⟨(1 + nx).toNat, by omega, by omega, by rw [wrap_sm (by omega)]; omega⟩)
  go_loopw [5] (fun i wr => ∃ (k : Nat) (L : List VecD) (vs : Value), k ≤ n + 1 ∧ i = .int .i64 k ∧ DrJ g w.heap.size (w.heap.size + 1) (w.heap.size + 1 + 1) (2 * k) L vs vs w wr) (fun i _ => n + 1 - (intOf i).toNat)
  case atStart => exact ⟨0, [], _, by omega, rfl, HI0.out⟩
  case round =>
    clear HI0
    obtain ⟨k, L, vs, hk, rfl, hdr⟩ := hrel
    have HI := Lib.hid hdr
    clear hdr
    by_cases hle : k ≤ n
    · have hk1 : (k : Int) ≤ (n : Int) := by omega
      have hkw : IntKind.i64.wrap ((k : Int) + 1) = (k : Int) + 1 := wrap_sm (by omega)
      go_wp2
      go_loopw [6] (fun i wr => ∃ (q : Nat) (L : List VecD) (vs : Value), q ≤ 2 ∧ i = .int .i64 q ∧ DrJ g w.heap.size (w.heap.size + 1) (w.heap.size + 1 + 1) (2 * k + q) L vs vs w wr) (fun i _ => 2 - (intOf i).toNat)
      case atStart => exact ⟨0, L, vs, by omega, rfl, HI.out⟩
      case round =>
        clear HI L vs
        obtain ⟨q, L, vs, hq, rfl, hdr⟩ := hrel
        have HI := Lib.hid hdr
        clear hdr
        by_cases hlt2 : q < 2
        · have hq1 : (q : Int) < 2 := by omega
          have hqw : IntKind.i64.wrap ((q : Int) + 1) = (q : Int) + 1 := wrap_sm (by omega)
          go_wp2
          refine region_stage3 (C := fun w' => w'.heap[w.heap.size + 1]? = some (.cells #[vs, .slice none 0 0] 26 (0, 0))) [(0, 0), (1, 1), (2, 0), (3, 0), (4, 0), (5, 0), (8, 0), (9, 0), (10, 0), (11, 0), (14, 0), (6, 2), (7, 0), (12, 2), (13, 0), (15, 2), (16, 0), (17, 0), (18, 2), (19, 2), (20, 0), (21, 2)] 21 (drS g w.heap.size (w.heap.size + 1) (w.heap.size + 1 + 1) (2 * k + q) L vs vs w) (by kernel_rfl) (by kernel_rfl) (fun _ _ h hb => heap_keep h hb) HI.out HI.out.box ?_
          repeat (refine run_quiet rfl (fun K hK => ?_); go_simp; refine hK _ ?_; clear hK K)
          refine run_load rfl (fun K hK => ?_)
          go_simp
          refine ⟨vs, fun zt ht => (by have c := cell_at (j := 0) ht rfl; simp [c, Result.andThen]), hK _ ?_⟩
          clear hK K
          repeat (refine run_quiet rfl (fun K hK => ?_); go_simp; refine hK _ ?_; clear hK K)
          refine run_step rfl (by rfl) (fun K hK wa hs hc => ?_)
          have HS := Lib.hid (show DrJ g w.heap.size (w.heap.size + 1) (w.heap.size + 1 + 1) (2 * k + q) L vs vs w wa from hs)
          clear hs hc
          unfold Oper.givesAt
          go_simp
          refine (l01Below_c g 9 _ HS.out.cur (by omega) (by omega)).mono ?_
          rintro e wz ⟨x, x1, x2, rfl, s⟩
          refine ⟨_, rfl, drS g w.heap.size (w.heap.size + 1) (w.heap.size + 1 + 1) (2 * k + q) L vs vs w, HS.out.step s, (HS.out.step s).box, hK _ _ ?_⟩
          clear hK K s HS wa wz
          repeat (refine run_quiet rfl (fun K hK => ?_); go_simp; refine hK _ ?_; clear hK K)
          refine run_step rfl (by rfl) (fun K hK wa hs hc => ?_)
          have HS := Lib.hid (show DrJ g w.heap.size (w.heap.size + 1) (w.heap.size + 1 + 1) (2 * k + q) L vs vs w wa from hs)
          clear hs hc
          unfold Oper.givesAt
          go_simp
          refine (l01Below_c g 9 _ HS.out.cur (by omega) (by omega)).mono ?_
          rintro e wz ⟨y, y1, y2, rfl, s⟩
          refine ⟨_, rfl, drS g w.heap.size (w.heap.size + 1) (w.heap.size + 1 + 1) (2 * k + q) L vs vs w, HS.out.step s, (HS.out.step s).box, hK _ _ ?_⟩
          clear hK K s HS wa wz
          repeat (refine run_quiet rfl (fun K hK => ?_); go_simp; refine hK _ ?_; clear hK K)
          refine run_step rfl (by rfl) (fun K hK wa hs hc => ?_)
          have HS := Lib.hid (show DrJ g w.heap.size (w.heap.size + 1) (w.heap.size + 1 + 1) (2 * k + q) L vs vs w wa from hs)
          clear hs hc
          unfold Oper.givesAt
          go_simp
          refine (l01Below_c g 60 _ HS.out.cur (by omega) (by omega)).mono ?_
          rintro e wz ⟨z, z1, z2, rfl, s⟩
          refine ⟨_, rfl, drS g w.heap.size (w.heap.size + 1) (w.heap.size + 1 + 1) (2 * k + q) L vs vs w, HS.out.step s, (HS.out.step s).box, hK _ _ ?_⟩
          clear hK K s HS wa wz
          repeat (refine run_quiet rfl (fun K hK => ?_); go_simp; refine hK _ ?_; clear hK K)
          refine run_step rfl (by rfl) (fun K hK wa hs hc => ?_)
          have HS := Lib.hid (show DrJ g w.heap.size (w.heap.size + 1) (w.heap.size + 1 + 1) (2 * k + q) L vs vs w wa from hs)
          clear hs hc
          unfold Oper.givesAt
          go_simp
          refine ⟨drV g w.heap.size (w.heap.size + 1) (w.heap.size + 1 + 1) (2 * k + q) L vs vs w wa.heap.size _ _ _, ⟨HS.out.below (by repeat (first | exact Below.refl _ _ | refine Below.drew ?_ | refine Below.alloc ?_ (by first | exact Nat.le_refl _ | (simp; done) | (simp; omega) | omega) _ | refine Below.more ?_ (by first | exact Nat.le_refl _ | (simp; done) | (simp; omega) | omega) _ _ | refine Below.setCell ?_ (by first | exact Nat.le_refl _ | (simp; done) | (simp; omega) | omega) _ | assumption)), heap_alloc_new _ _⟩, heap_keep HS.out.box (by repeat (first | exact Below.refl _ _ | refine Below.drew ?_ | refine Below.alloc ?_ (by first | exact Nat.le_refl _ | (simp; done) | (simp; omega) | omega) _ | refine Below.more ?_ (by first | exact Nat.le_refl _ | (simp; done) | (simp; omega) | omega) _ _ | refine Below.setCell ?_ (by first | exact Nat.le_refl _ | (simp; done) | (simp; omega) | omega) _ | assumption)), hK _ _ ?_⟩
          clear hK K HS
          generalize wa.heap.size = b
          clear wa
          refine run_step rfl (by rfl) (fun K hK wa hs hc => ?_)
          have HS := Lib.hid (show DrJ g w.heap.size (w.heap.size + 1) (w.heap.size + 1 + 1) (2 * k + q) L vs vs w wa ∧ wa.heap[b]? = some (.cells #[.int .i64 _, .int .i64 _, .int .i64 _] 29 (0, 0)) from hs)
          have hTa := (Array.getElem?_eq_some_iff.1 HS.out.1.box).1
          clear hs hc
          refine gives_append _ _ _ (by rfl) (w.heap.size + 1 + 1) 29 i0 _ 3 24 Try.underlying23 hi hz0 hz1 hz2 (by rfl) (by decide) vs (2 * k + q) (vecVals L) (by rfl) HS.out.1.own ⟨b, 0, none⟩ 1 1 _ (by rfl) (by rfl) (World.news_of_block HS.out.2) ?_ (by decide) (by simp only [maxLen]; omega) (by omega) (by omega) ?_
          · intro u hu
            simp at hu
            rcases hu with rfl | rfl | rfl <;> rfl
          intro gg cap w1 hown hgrow
          have hJ := fun hv => DrJ.app HS.out.1 hown hgrow hv
          obtain ⟨L1, hJ'⟩ : ∃ L1, DrJ g w.heap.size (w.heap.size + 1) (w.heap.size + 1 + 1) (2 * k + q + 1) L1 (.slice (some ⟨gg, 0, none⟩) (2 * k + q + 1) cap) vs w w1 := ⟨_, hJ (strip_sm (by omega) hlt2 x1 x2 y1 y2 z1 z2)⟩
          have HJ := Lib.hid hJ'
          clear hJ hJ'
          refine ⟨drS g w.heap.size (w.heap.size + 1) (w.heap.size + 1 + 1) (2 * k + q + 1) L1 (.slice (some ⟨gg, 0, none⟩) (2 * k + q + 1) cap) vs w, HJ.out, HJ.out.box, hK _ _ ?_⟩
          clear hK K HJ hown hgrow w1 HS hTa wa
          repeat (refine run_quiet rfl (fun K hK => ?_); go_simp; refine hK _ ?_; clear hK K)
          refine run_last rfl (by rfl) (drS g w.heap.size (w.heap.size + 1) (w.heap.size + 1 + 1) (2 * k + q + 1) L1 (.slice (some ⟨gg, 0, none⟩) (2 * k + q + 1) cap) (.slice (some ⟨gg, 0, none⟩) (2 * k + q + 1) cap) w) (fun wa hs hc => ?_) (fun wb hb => ?_)
          · have HS := Lib.hid hs
            have c0 := cell_at (j := 0) hc rfl
            have c1 := frozen_at (j := 0) hc
            clear hs hc
            unfold Oper.givesAt
            go_simp
            exact DrJ.put HS.out (by omega)
          · have HB := Lib.hid hb
            clear hb
            simp only [Act.put, List.setIfInBounds_toArray]
            go_wp2
            exact ⟨⟨q + 1, L1, _, by omega, by first | rfl | go_num, HB.out⟩, by simp only [intOf]; omega⟩
        · obtain rfl : q = 2 := by omega
          go_wp2
          exact ⟨⟨k + 1, L, vs, by omega, by first | rfl | go_num, by exact HI.out⟩, by simp only [intOf]; omega⟩
    · obtain rfl : k = n + 1 := by omega
      obtain ⟨gv, cv, rfl, _, _⟩ := HI.out.own.form (by omega)
      have hk1 : ¬ ((n : Int) + 1) ≤ (n : Int) := by omega
      have HLN := Lib.hid HI.out.len
      have HLS := Lib.hid (show L.length = 2 * n + 2 by rw [HI.out.len]; omega)
      have hTz := (Array.getElem?_eq_some_iff.1 HI.out.box).1
      clear hi hz0 hz1 hz2 hle hk
      go_wp2
      go_loopw [7] (fun i wq => ∃ (k : Nat) (fs : Value), k ≤ n ∧ i = .int .i64 k ∧ Below (w.heap.size + 1) wr wq ∧ SubT (w.heap.size + 1 + 1) (w.heap.size + 1) L (stripF k) (.slice (some ⟨gv, 0, none⟩) (2 * (n + 1)) cv) fs wq) (fun i _ => n - (intOf i).toNat)
      case atStart =>
        refine ⟨0, .slice none 0 0, by omega, rfl, Below.refl _ _, HI.out.box, by rw [HLN.out]; exact HI.out.own, fun _ => 0, World.ownsRow_nil _ _ _ _, fun i hi => absurd hi (Nat.not_lt_zero _), fun i j _ hj => absurd hj (Nat.not_lt_zero _)⟩
      case round =>
        rename World => wq
        obtain ⟨k, fs, hk, rfl, hbq, hst⟩ := hrel
        have HS := Lib.hid hst
        have HB := Lib.hid hbq
        have hwq := (Array.getElem?_eq_some_iff.1 hst.box).1
        clear hbq hst
        by_cases hlt3 : k < n
        · have hk2 : (k : Int) < (n : Int) := by omega
          have t1 := cell_at (j := 1) HS.out.box rfl
          have e0 : IntKind.i64.wrap (2 * (k : Int)) = 2 * (k : Int) := wrap_sm (by omega)
          have e1 : IntKind.i64.wrap (2 * (k : Int) + 2) = 2 * (k : Int) + 2 := wrap_sm (by omega)
          have e2 : IntKind.i64.wrap (2 * (k : Int) + 3) = 2 * (k : Int) + 3 := wrap_sm (by omega)
          have e3 : IntKind.i64.wrap (2 * (k : Int) + 1) = 2 * (k : Int) + 1 := wrap_sm (by omega)
          have e4 : IntKind.i64.wrap ((k : Int) + 1) = (k : Int) + 1 := wrap_sm (by omega)
          go_wp2_with (at_builtin; go_loud (refine wp_app_face (w0 := wq) rfl _ _ rfl (w.heap.size + 1 + 1) _ fs _ rfl rfl HS.out.fac ?b0 ?b1 wq.heap.size (wq.heap.size + 1) 1 [2 * (k : Int), 2 * (k : Int) + 2, 2 * (k : Int) + 3, 2 * (k : Int) + 1] rfl (Nat.le_refl _) ?b2 rfl ?b3 ?b4 ?_))
          case b0 => exact (by repeat (first | exact Below.refl _ _ | refine Below.drew ?_ | refine Below.alloc ?_ (by first | exact Nat.le_refl _ | (simp; done) | (simp; omega) | omega) _ | refine Below.more ?_ (by first | exact Nat.le_refl _ | (simp; done) | (simp; omega) | omega) _ _ | refine Below.setCell ?_ (by first | exact Nat.le_refl _ | (simp; done) | (simp; omega) | omega) _ | assumption))
          case b1 => omega
          case b2 =>
            first
              | exact (heap_alloc_old _ _ (by simp)).trans (heap_alloc_new _ _)
              | exact (heap_alloc_old _ _ (by simp)).trans (heap_at_new (by simp))
              | (simp; done)
          case b3 => (simp [go_sem]; done)
          case b4 => have := stripF_len k; omega
          intro v5 w5 hf5 hg5
          obtain ⟨fa5, fc5, rfl⟩ : ∃ fa fc, v5 = .slice fa ((stripF k).length + 1) fc := by
            obtain ⟨_, h1, _, _⟩ := hf5
            exact own_shape h1
          have HS6 : Hid (SubT1 (w.heap.size + 1 + 1) (w.heap.size + 1) L (stripF (k + 1)) (.slice (some ⟨gv, 0, none⟩) (2 * (n + 1)) cv) fs (.slice fa5 ((stripF k).length + 1) fc5) w5) := Lib.hid (by
            rw [stripF_snoc]
            refine SubT.grown (HS.out.below ?_) hg5 ?_
            · exact (by repeat (first | exact Below.refl _ _ | refine Below.drew ?_ | refine Below.alloc ?_ (by first | exact Nat.le_refl _ | (simp; done) | (simp; omega) | omega) _ | refine Below.more ?_ (by first | exact Nat.le_refl _ | (simp; done) | (simp; omega) | omega) _ _ | refine Below.setCell ?_ (by first | exact Nat.le_refl _ | (simp; done) | (simp; omega) | omega) _ | assumption))
            · rw [List.length_append, List.length_singleton]; exact hf5)
          have HB6 : Hid (Below (w.heap.size + 1) wr w5) := Lib.hid (by
            refine Below.grown (?_ : Below (w.heap.size + 1) wr _) hg5 ?_ ?_
            · exact HB.out.trans ((show Below wq.heap.size wq _ from (by repeat (first | exact Below.refl _ _ | refine Below.drew ?_ | refine Below.alloc ?_ (by first | exact Nat.le_refl _ | (simp; done) | (simp; omega) | omega) _ | refine Below.more ?_ (by first | exact Nat.le_refl _ | (simp; done) | (simp; omega) | omega) _ _ | refine Below.setCell ?_ (by first | exact Nat.le_refl _ | (simp; done) | (simp; omega) | omega) _ | assumption))).mono (by omega))
            · simp; omega
            · intro q hq
              obtain ⟨_, h1, _, _⟩ := HS.out.fac
              have := (own_row h1 q hq).1
              omega)
          have T1 := cell_at (j := 1) HS6.out.box rfl
          have Z1 := frozen_at (j := 1) HS6.out.box
          have hT6 := (Array.getElem?_eq_some_iff.1 HS6.out.box).1
          clear hf5 hg5
          go_wp2
          exact ⟨⟨k + 1, .slice fa5 ((stripF k).length + 1) fc5, by omega, by first | rfl | go_num, HB6.out.setCell (Nat.le_refl _) _, HS6.out.put⟩, by simp only [intOf]; omega⟩
        · obtain rfl : k = n := by omega
          obtain ⟨fa, fc, rfl⟩ : ∃ fa fc, fs = .slice fa k fc := by
            obtain ⟨_, h1, _, _⟩ := HS.out.fac
            rw [stripF_len] at h1
            exact own_shape h1
          have HW : Hid (DrW g w.heap.size (w.heap.size + 1) (w.heap.size + 1 + 1) (2 * (k + 1)) k L (stripF k) (.slice (some ⟨gv, 0, none⟩) (2 * (k + 1)) cv) (.slice fa k fc) w wq) := Lib.hid (by
            have hw := HI.out.chg.size
            have h5 := HS.out.own
            rw [HLN.out] at h5
            have h6 := facesG_of HS.out.fac
            rw [stripF_len] at h6
            exact ⟨HS.out.box, by rw [HB.out.block _ (Nat.lt_succ_self _)]; exact HI.out.res, h5, h6, chg_under HI.out.chg HB.out (by omega), HLN.out, HI.out.sm, hlt, by omega, by omega, rfl⟩)
          have hk2 : ¬ (k : Int) < (k : Int) := by omega
          have hTx := (Array.getElem?_eq_some_iff.1 HW.out.res).1
          have c0 := cell_at (j := 0) HW.out.box rfl
          have c1 := cell_at (j := 1) HW.out.box rfl
          have c3 := frozen_at (j := 0) HW.out.res
          have c4 := frozen_at (j := 1) HW.out.res
          have c5 := cell_at (j := 0) HW.out.res rfl
          have c6 := cell_at (j := 1) HW.out.res rfl
          go_wp2
          obtain ⟨e0, e1⟩ := two_cells HW.out.res (.slice (some ⟨gv, 0, none⟩) (2 * (k + 1)) cv) (.slice fa k fc)
          have HD := HW.out.done (stripF_len k) (by omega) (by omega)
          exact bodyPost_ret (v := .agg #[.slice (some ⟨gv, 0, none⟩) (2 * (k + 1)) cv, .slice fa k fc]) (by simp [results, Try.results35, go_sem, e0, e1]) rfl ⟨_, _, rfl, HD.1, ⟨HW.out.sm, .inr ⟨k, h1n, hn3, rfl, rfl, by show 2 * (k + 1) = 2 * k + 2; omega⟩⟩, ⟨_, _, _, _, rfl, own_cap HW.out.own (show 0 < 2 * (k + 1) by omega)⟩, HD.2⟩
end Go.Proofs.Ytpfmcobkfofbjaa
