/- Contracts of FormatProgram. -/
import Derived.Test.YtdkjiafdfenbkaaDoorTxtS
import Derived.Test.YtdkjiafdfenbkaaDoorBuild
namespace Go.Proofs.YtdkjiafdfenbkaaDoor
open Go Go.RowKit
theorem pgm_no {p : ProgD} (h : validB p = false) : pgmB p = ⟨#[]⟩ := by unfold pgmB; rw [if_neg (by rw [h]; decide)]
theorem pgm_yes {p : ProgD} (h : validB p = true) : pgmB p = pgmTxt p p.nA := by unfold pgmB; rw [if_pos h]
theorem asg_at {p : ProgD} (h : PgmOk p) {k : Nat} (hk : k < p.nA) : ∃ r : Nat, (p.asg.getD k default).f1 = (r : Int) ∧ r < p.nN := by
  obtain ⟨_, g2, g3⟩ := h.asg k hk
  exact ⟨(p.asg.getD k default).f1.toNat, by omega, by omega⟩
theorem builder_below {T e : TypeId} {B b : Nat} {bs : List Value} {w w' : World} (h : Lib.IsBuilder T e B b bs w) (hb : Below w.heap.size w w') : Lib.IsBuilder T e B b bs w' := by
  rcases h with ⟨h1, v, h2, h3, h4⟩ | ⟨h1, v, h2, h3, h4⟩
  · exact .inl ⟨h1, v, by rw [hb.block b (Array.getElem?_eq_some_iff.1 h2).1]; exact h2, own_kept h3 hb, h4⟩
  · exact .inr ⟨h1, v, by rw [hb.block b (Array.getElem?_eq_some_iff.1 h2).1]; exact h2, own_kept h3 hb, h4⟩
set_option maxRecDepth 100000 in
set_option maxHeartbeats 4000000 in
theorem spec_FormatProgram_c (v : Value) (p : ProgD) (w : World) (hr : ProgramR w v p) (hs : ProgramSz 1048576 p) :
    Calls Tryd.prog 31 #[v] w fun e w' => e = .returned (.string (pgmB p)) ∧ Below w.heap.size w w' := by
  have HVP := Lib.hid (fun W (h : Below w.heap.size w W) => spec_IsValidProgram_c v p W (hr.below h) hs)
  cases hv : validB p
  · have HE := Lib.hid (pgm_no hv)
    rw [hv] at HVP
    obtain ⟨a, c, a', c', rfl, h1, h2⟩ := hr
    clear h1 h2 hv
    go_enter Tryd.func31, Tryd.ntmps31
    go_wp2_with (go_at_call 65; refine (HVP.out _ (by repeat (first | exact Below.refl _ _ | refine Below.drew ?_ | refine Below.alloc ?_ (by first | exact Nat.le_refl _ | (simp; done) | (simp; omega) | omega) _ | refine Below.more ?_ (by first | exact Nat.le_refl _ | (simp; done) | (simp; omega) | omega) _ _ | refine Below.setCell ?_ (by first | exact Nat.le_refl _ | (simp; done) | (simp; omega) | omega) _ | assumption))).mono ?_; rintro e wn ⟨rfl, hbn⟩; obtain ⟨X, nX, rfl⟩ := Below.ext hbn; clear hbn)
    go_ret
    exact ⟨by rw [HE.out]; rfl, (by repeat (first | exact Below.refl _ _ | refine Below.drew ?_ | refine Below.alloc ?_ (by first | exact Nat.le_refl _ | (simp; done) | (simp; omega) | omega) _ | refine Below.more ?_ (by first | exact Nat.le_refl _ | (simp; done) | (simp; omega) | omega) _ _ | refine Below.setCell ?_ (by first | exact Nat.le_refl _ | (simp; done) | (simp; omega) | omega) _ | assumption))⟩
  · have hok := pgm_ok hv
    have HE := Lib.hid (pgm_yes hv)
    have HLN := Lib.hid (fun k hk => pgmTxt_len hok k hk)
    have hn60 := asg_few hok
    have HAT := Lib.hid (fun k (hk : k < p.nA) => asg_at hok hk)
    have HSZ := Lib.hid (fun k (hk : k < p.nA) => (hok.asg k hk).1)
    have HTX := Lib.hid (fun (i : Nat) (hi : i < p.nN) W (h : Below w.heap.size w W) => spec_text_c p hok i hi v W (hr.below h))
    have HTL := Lib.hid (fun (i : Nat) (hi : i < p.nN) => txt_len hok hi)
    have HST := Lib.hid (show ∀ k, pgmTxt p (k + 1) = pgmTxt p k ++ ((((p.asg.getD k default).f0 ++ ⟨#[32, 61, 32]⟩) ++ txt p.nodes (p.asg.getD k default).f1.toNat) ++ ⟨#[59, 10]⟩) from fun _ => rfl)
    have H0 := Lib.hid (show pgmTxt p 0 = ⟨#[]⟩ from rfl)
    rw [hv] at HVP
    obtain ⟨a, c, a', c', rfl, h1, h2⟩ := hr
    have HSL := Lib.hid h2
    clear h1 h2 hv hok
    generalize pgmTxt p = PT at *
    generalize pgmB p = R at *
    go_enter Tryd.func31, Tryd.ntmps31
    go_wp2_with (go_at_call 65; refine (HVP.out _ (by repeat (first | exact Below.refl _ _ | refine Below.drew ?_ | refine Below.alloc ?_ (by first | exact Nat.le_refl _ | (simp; done) | (simp; omega) | omega) _ | refine Below.more ?_ (by first | exact Nat.le_refl _ | (simp; done) | (simp; omega) | omega) _ _ | refine Below.setCell ?_ (by first | exact Nat.le_refl _ | (simp; done) | (simp; omega) | omega) _ | assumption))).mono ?_; rintro e wn ⟨rfl, hbn⟩; obtain ⟨X, nX, rfl⟩ := Below.ext hbn; clear hbn)
    obtain ⟨W0, hW0⟩ : ∃ W0, W0 = more (w.alloc (.cells #[.slice a p.nN c, .slice a' p.nA c'] 63)) X nX := ⟨_, rfl⟩
    rw [← hW0]
    have HBW : Hid (Below w.heap.size w W0) := Lib.hid (by rw [hW0]; exact (by repeat (first | exact Below.refl _ _ | refine Below.drew ?_ | refine Below.alloc ?_ (by first | exact Nat.le_refl _ | (simp; done) | (simp; omega) | omega) _ | refine Below.more ?_ (by first | exact Nat.le_refl _ | (simp; done) | (simp; omega) | omega) _ _ | refine Below.setCell ?_ (by first | exact Nat.le_refl _ | (simp; done) | (simp; omega) | omega) _ | assumption)))
    have b0 : W0.cell? ⟨w.heap.size, 0, none⟩ = some (.slice a p.nN c) := by rw [hW0]; simp [go_sem]
    have b1 : W0.cell? ⟨w.heap.size, 1, none⟩ = some (.slice a' p.nA c') := by rw [hW0]; simp [go_sem]
    have hw0 : w.heap.size < W0.heap.size := World.block_lt_of_cell? _ _ b0
    clear hW0
    go_loopw [3, 12] (fun sv i wr => ∃ (k : Nat), k ≤ p.nA ∧ i = .int .i64 k ∧ sv = .string (PT k) ∧ Below W0.heap.size W0 wr) (fun _ i _ => p.nA - (intOf i).toNat)
    case atStart => exact ⟨0, Nat.zero_le _, rfl, by rw [H0.out], Below.refl _ _⟩
    case round =>
      obtain ⟨k, hk, rfl, rfl, hbr⟩ := hrel
      have HBR := Lib.hid hbr
      have hrs := hbr.size
      by_cases hlt : k < p.nA
      · have hk1 : (k : Int) < (p.nA : Int) := by omega
        obtain ⟨gb, go, rfl, hgb, hgc⟩ := (HSL.out.below HBW.out) (by omega)
        have c0 : W0.cell? ⟨gb, go + k * 2, none⟩ = some (.string (p.asg.getD k default).f0) := hgc k hlt 0 (by omega)
        have c1 : W0.cell? ⟨gb, go + k * 2 + 1, none⟩ = some (.int .i64 (p.asg.getD k default).f1) := hgc k hlt 1 (by omega)
        clear hgc
        obtain ⟨r, hr1, hr2⟩ := HAT.out k hlt
        have hnm := HSZ.out k hlt
        have HTC := Lib.hid (HTX.out r hr2)
        have htl := HTL.out r hr2
        have hpl := HLN.out k hk
        have HS1 := Lib.hid (HST.out k)
        rw [hr1] at c1 HS1
        rw [Int.toNat_natCast] at HS1
        clear hr1
        generalize PT k = u at *
        generalize (p.asg.getD k default).f0 = nm at *
        generalize txt p.nodes r = tx at *
        replace c0 := cell_below hbr c0
        replace c1 := cell_below hbr c1
        have d0 := cell_below hbr b0
        have d1 := cell_below hbr b1
        have hd0 := World.block_lt_of_cell? _ _ d0
        have hg0 := World.block_lt_of_cell? _ _ c0
        have hd2 : w.heap.size < wr.heap.size + 1 := by omega
        have hg2 : gb < wr.heap.size + 1 := by omega
        clear hbr
        have n1 : ¬ 9223372036854775807 < u.size + nm.size := by omega
        have n2 : ¬ 9223372036854775807 < u.size + nm.size + 3 := by omega
        have n3 : ¬ 9223372036854775807 < u.size + nm.size + 3 + tx.size := by omega
        have n4 : ¬ 9223372036854775807 < u.size + nm.size + 3 + tx.size + 2 := by omega
        go_wp2
        (first | refine region_q2 (by kernel_rfl) (by kernel_rfl) ?_ | refine region_q (by kernel_rfl) (by kernel_rfl) ?_)
        repeat (first | go_big_quiet_skip | (go_big_quiet_want; go_simp; go_big_quiet_on))
        (refine wpQuiet_step (fun K hK => ?_); go_simp; refine ⟨_, fun zt => ext_below (HTC.out _ (HBW.out.trans ((HBR.out.trans (by repeat (first | exact Below.refl _ _ | refine Below.drew ?_ | refine Below.alloc ?_ (by first | exact Nat.le_refl _ | (simp; done) | (simp; omega) | omega) _ | refine Below.more ?_ (by first | exact Nat.le_refl _ | (simp; done) | (simp; omega) | omega) _ _ | refine Below.setCell ?_ (by first | exact Nat.le_refl _ | (simp; done) | (simp; omega) | omega) _ | assumption))).mono HBW.out.size))), hK _ ?_⟩; clear hK K)
        repeat (first | go_big_quiet_skip | (go_big_quiet_want; go_simp; go_big_quiet_on))
        (refine wpQuiet_nil ?_; intro X nX)
        go_wp2
        refine ⟨⟨k + 1, by omega, by first | rfl | go_num, ?_, HBR.out.trans (by repeat (first | exact Below.refl _ _ | refine Below.drew ?_ | refine Below.alloc ?_ (by first | exact Nat.le_refl _ | (simp; done) | (simp; omega) | omega) _ | refine Below.more ?_ (by first | exact Nat.le_refl _ | (simp; done) | (simp; omega) | omega) _ _ | refine Below.setCell ?_ (by first | exact Nat.le_refl _ | (simp; done) | (simp; omega) | omega) _ | assumption))⟩, by simp only [intOf]; omega⟩
        rw [HS1.out, ByteArray.append_assoc, ByteArray.append_assoc, ByteArray.append_assoc, ByteArray.append_assoc, ByteArray.append_assoc]
      · have hk1 : ¬ (k : Int) < (p.nA : Int) := by omega
        obtain rfl : k = p.nA := by omega
        go_wp2
        go_ret
        exact ⟨by rw [HE.out]; rfl, HBW.out.trans (HBR.out.mono HBW.out.size)⟩
set_option maxRecDepth 100000 in
set_option maxHeartbeats 4000000 in
theorem impl_FormatProgram_c (v : Value) (p : ProgD) (w : World) (hr : ProgramR w v p) (hT : Tab w) (hs : ProgramSz 1048576 p) :
    Calls Tryd.prog 33 #[v] w fun e w' => e = .returned (.string (pgmB p)) ∧ Below w.heap.size w w' := by
  have HVP := Lib.hid (fun W (h : Below w.heap.size w W) => impl_IsValidProgram_c v p W (hr.below h) hs)
  cases hv : validB p
  · have HE := Lib.hid (pgm_no hv)
    rw [hv] at HVP
    obtain ⟨a, c, a', c', rfl, h1, h2⟩ := hr
    clear h1 h2 hv
    go_enter Tryd.func33, Tryd.ntmps33
    go_wp2_with (go_at_call 69; refine (HVP.out _ (by repeat (first | exact Below.refl _ _ | refine Below.drew ?_ | refine Below.alloc ?_ (by first | exact Nat.le_refl _ | (simp; done) | (simp; omega) | omega) _ | refine Below.more ?_ (by first | exact Nat.le_refl _ | (simp; done) | (simp; omega) | omega) _ _ | refine Below.setCell ?_ (by first | exact Nat.le_refl _ | (simp; done) | (simp; omega) | omega) _ | assumption))).mono ?_; rintro e wn ⟨rfl, hbn⟩; obtain ⟨X, nX, rfl⟩ := Below.ext hbn; clear hbn)
    go_ret
    exact ⟨by rw [HE.out]; rfl, (by repeat (first | exact Below.refl _ _ | refine Below.drew ?_ | refine Below.alloc ?_ (by first | exact Nat.le_refl _ | (simp; done) | (simp; omega) | omega) _ | refine Below.more ?_ (by first | exact Nat.le_refl _ | (simp; done) | (simp; omega) | omega) _ _ | refine Below.setCell ?_ (by first | exact Nat.le_refl _ | (simp; done) | (simp; omega) | omega) _ | assumption))⟩
  · have hok := pgm_ok hv
    have HE := Lib.hid (pgm_yes hv)
    have HLN := Lib.hid (fun k hk => pgmTxt_len hok k hk)
    have hn60 := asg_few hok
    have HAT := Lib.hid (fun k (hk : k < p.nA) => asg_at hok hk)
    have HSZ := Lib.hid (fun k (hk : k < p.nA) => (hok.asg k hk).1)
    have HTX := Lib.hid (fun (i : Nat) (hi : i < p.nN) W (h : Below w.heap.size w W) => impl_text_c p hok i hi v W (hr.below h) (hT.below h))
    have HTL := Lib.hid (fun (i : Nat) (hi : i < p.nN) => txt_len hok hi)
    have HST := Lib.hid (show ∀ k, pgmTxt p (k + 1) = pgmTxt p k ++ ((((p.asg.getD k default).f0 ++ ⟨#[32, 61, 32]⟩) ++ txt p.nodes (p.asg.getD k default).f1.toNat) ++ ⟨#[59, 10]⟩) from fun _ => rfl)
    have H0 := Lib.hid (show pgmTxt p 0 = ⟨#[]⟩ from rfl)
    rw [hv] at HVP
    obtain ⟨a, c, a', c', rfl, h1, h2⟩ := hr
    have HSL := Lib.hid h2
    clear h1 h2 hv hok
    generalize pgmTxt p = PT at *
    generalize pgmB p = R at *
    go_enter Tryd.func33, Tryd.ntmps33
    go_wp2_with (go_at_call 69; refine (HVP.out _ (by repeat (first | exact Below.refl _ _ | refine Below.drew ?_ | refine Below.alloc ?_ (by first | exact Nat.le_refl _ | (simp; done) | (simp; omega) | omega) _ | refine Below.more ?_ (by first | exact Nat.le_refl _ | (simp; done) | (simp; omega) | omega) _ _ | refine Below.setCell ?_ (by first | exact Nat.le_refl _ | (simp; done) | (simp; omega) | omega) _ | assumption))).mono ?_; rintro e wn ⟨rfl, hbn⟩; obtain ⟨X, nX, rfl⟩ := Below.ext hbn; clear hbn)
    obtain ⟨W0, hW0⟩ : ∃ W0, W0 = more (w.alloc (.cells #[.slice a p.nN c, .slice a' p.nA c'] 63)) X nX := ⟨_, rfl⟩
    have hWz : w.heap.size + 1 + X.size = W0.heap.size := by rw [hW0]; simp
    rw [← hW0, hWz]
    clear hWz
    have HBW : Hid (Below w.heap.size w W0) := Lib.hid (by rw [hW0]; exact (by repeat (first | exact Below.refl _ _ | refine Below.drew ?_ | refine Below.alloc ?_ (by first | exact Nat.le_refl _ | (simp; done) | (simp; omega) | omega) _ | refine Below.more ?_ (by first | exact Nat.le_refl _ | (simp; done) | (simp; omega) | omega) _ _ | refine Below.setCell ?_ (by first | exact Nat.le_refl _ | (simp; done) | (simp; omega) | omega) _ | assumption)))
    have b0 : W0.cell? ⟨w.heap.size, 0, none⟩ = some (.slice a p.nN c) := by rw [hW0]; simp [go_sem]
    have b1 : W0.cell? ⟨w.heap.size, 1, none⟩ = some (.slice a' p.nA c') := by rw [hW0]; simp [go_sem]
    have hw0 : w.heap.size < W0.heap.size := World.block_lt_of_cell? _ _ b0
    have HFR := Lib.hid (Lib.fresh_isBuilder 110 5 W0)
    clear hW0
    go_loopw [12] (fun i wr => ∃ (k : Nat), k ≤ p.nA ∧ i = .int .i64 k ∧ Below W0.heap.size W0 wr ∧ Lib.IsBuilder 110 5 W0.heap.size W0.heap.size (Lib.byteCells (PT k).data.toList) wr) (fun i _ => p.nA - (intOf i).toNat)
    case atStart => exact ⟨0, Nat.zero_le _, rfl, (by repeat (first | exact Below.refl _ _ | refine Below.drew ?_ | refine Below.alloc ?_ (by first | exact Nat.le_refl _ | (simp; done) | (simp; omega) | omega) _ | refine Below.more ?_ (by first | exact Nat.le_refl _ | (simp; done) | (simp; omega) | omega) _ _ | refine Below.setCell ?_ (by first | exact Nat.le_refl _ | (simp; done) | (simp; omega) | omega) _ | assumption)), by rw [H0.out]; exact HFR.out⟩
    case round =>
      clear HFR
      obtain ⟨k, hk, rfl, hbr, hbu⟩ := hrel
      have HBU := Lib.hid hbu
      have HBR := Lib.hid hbr
      have hrs := hbr.size
      have hbl : W0.heap.size < wr.heap.size := by
        rcases hbu with h | h <;> exact h.lt
      clear hbu
      by_cases hlt : k < p.nA
      · have hk1 : (k : Int) < (p.nA : Int) := by omega
        obtain ⟨gb, go, rfl, hgb, hgc⟩ := (HSL.out.below HBW.out) (by omega)
        have c0 : W0.cell? ⟨gb, go + k * 2, none⟩ = some (.string (p.asg.getD k default).f0) := hgc k hlt 0 (by omega)
        have c1 : W0.cell? ⟨gb, go + k * 2 + 1, none⟩ = some (.int .i64 (p.asg.getD k default).f1) := hgc k hlt 1 (by omega)
        clear hgc
        obtain ⟨r, hr1, hr2⟩ := HAT.out k hlt
        have hnm := HSZ.out k hlt
        have HTC := Lib.hid (HTX.out r hr2)
        have htl := HTL.out r hr2
        have hpl := HLN.out k hk
        have HS1 := Lib.hid (HST.out k)
        rw [hr1] at c1 HS1
        rw [Int.toNat_natCast] at HS1
        clear hr1
        generalize PT k = u at *
        generalize (p.asg.getD k default).f0 = nm at *
        generalize txt p.nodes r = tx at *
        replace c0 := cell_below hbr c0
        replace c1 := cell_below hbr c1
        have d0 := cell_below hbr b0
        have d1 := cell_below hbr b1
        have hd0 := World.block_lt_of_cell? _ _ d0
        have hg0 := World.block_lt_of_cell? _ _ c0
        have n1 : ¬ 9223372036854775807 < nm.size + 3 := by omega
        have n2 : ¬ 9223372036854775807 < nm.size + 3 + tx.size := by omega
        have n3 : ¬ 9223372036854775807 < nm.size + 3 + tx.size + 2 := by omega
        have HWS := Lib.hid (fun W (h : Below wr.heap.size wr W) => WriteString_c W0.heap.size W0.heap.size _ (((nm ++ ⟨#[32, 61, 32]⟩) ++ tx) ++ ⟨#[59, 10]⟩) W (builder_below HBU.out h) (by
          have e3 : (⟨#[32, 61, 32]⟩ : ByteArray).size = 3 := rfl
          have e2 : (⟨#[59, 10]⟩ : ByteArray).size = 2 := rfl
          rw [Lib.byteCells_length, ByteArray.size_append, ByteArray.size_append, ByteArray.size_append, e3, e2]
          have : u.data.toList.length = u.size := by simp
          omega) (Nat.le_trans hrs h.size))
        clear hbr
        go_wp2
        ((first | refine region_qt2 9 (by kernel_rfl) (by kernel_rfl) ?_ | refine region_qt 9 (by kernel_rfl) (by kernel_rfl) ?_); simp only [List.take_succ_cons, List.take_zero, List.drop_succ_cons, List.drop_zero])
        repeat (first | go_big_quiet_skip | (go_big_quiet_want; go_simp; go_big_quiet_on))
        (refine wpQuiet_step (fun K hK => ?_); go_simp; refine ⟨_, fun zt => ext_below (HTC.out _ (HBW.out.trans ((HBR.out.trans (by repeat (first | exact Below.refl _ _ | refine Below.drew ?_ | refine Below.alloc ?_ (by first | exact Nat.le_refl _ | (simp; done) | (simp; omega) | omega) _ | refine Below.more ?_ (by first | exact Nat.le_refl _ | (simp; done) | (simp; omega) | omega) _ _ | refine Below.setCell ?_ (by first | exact Nat.le_refl _ | (simp; done) | (simp; omega) | omega) _ | assumption))).mono HBW.out.size))), hK _ ?_⟩; clear hK K)
        repeat (first | go_big_quiet_skip | (go_big_quiet_want; go_simp; go_big_quiet_on))
        (refine wpQuiet_nil ?_; intro X nX)
        go_wp2_with fail
        refine (HWS.out _ (by repeat (first | exact Below.refl _ _ | refine Below.drew ?_ | refine Below.alloc ?_ (by first | exact Nat.le_refl _ | (simp; done) | (simp; omega) | omega) _ | refine Below.more ?_ (by first | exact Nat.le_refl _ | (simp; done) | (simp; omega) | omega) _ _ | refine Below.setCell ?_ (by first | exact Nat.le_refl _ | (simp; done) | (simp; omega) | omega) _ | assumption))).mono ?_
        rintro e wn ⟨rfl, hbu2, hbn⟩
        have HBU2 := Lib.hid hbu2
        have HBN := Lib.hid hbn
        clear hbu2 hbn
        have HSS := Lib.hid (show Lib.byteCells u.data.toList ++ Lib.strCells (((nm ++ ⟨#[32, 61, 32]⟩) ++ tx) ++ ⟨#[59, 10]⟩) = Lib.byteCells (PT (k + 1)).data.toList from by
          rw [HS1.out, ba_app]
          unfold Lib.byteCells Lib.strCells
          rw [List.map_append])
        go_wp2
        refine ⟨⟨k + 1, by omega, by first | rfl | go_num, (HBR.out.trans (by repeat (first | exact Below.refl _ _ | refine Below.drew ?_ | refine Below.alloc ?_ (by first | exact Nat.le_refl _ | (simp; done) | (simp; omega) | omega) _ | refine Below.more ?_ (by first | exact Nat.le_refl _ | (simp; done) | (simp; omega) | omega) _ _ | refine Below.setCell ?_ (by first | exact Nat.le_refl _ | (simp; done) | (simp; omega) | omega) _ | assumption))).trans HBN.out, .inr ?_⟩, by simp only [intOf]; omega⟩
        rw [← HSS.out]
        exact HBU2.out
      · have hk1 : ¬ (k : Int) < (p.nA : Int) := by omega
        obtain rfl : k = p.nA := by omega
        go_wp2_with fail
        refine (Tryd.Builder_String_any W0.heap.size W0.heap.size _ wr HBU.out hrs).mono ?_
        rintro e wn ⟨rfl, hbn⟩
        go_wp2
        go_ret
        exact ⟨by rw [HE.out]; rfl, HBW.out.trans (HBR.out.trans hbn |>.mono HBW.out.size)⟩
theorem impl_FormatProgramT_c (v : Value) (p : ProgD) (w : World) (hr : ProgramR w v p) (hT : Tab w) (hs : ProgramSz 1048576 p) :
    Calls Tryd.prog 33 #[v] w fun e w' => e = .returned (.string (pgmB p)) ∧ Below w.heap.size w w' := impl_FormatProgram_c v p w hr hT hs
theorem spec_FormatProgramT_c (v : Value) (p : ProgD) (w : World) (hr : ProgramR w v p) (_ : Tab w) (hs : ProgramSz 1048576 p) :
    Calls Tryd.prog 31 #[v] w fun e w' => e = .returned (.string (pgmB p)) ∧ Below w.heap.size w w' := spec_FormatProgram_c v p w hr hs
end Go.Proofs.YtdkjiafdfenbkaaDoor
