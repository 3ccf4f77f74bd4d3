/- Contract of spec.DiceCell: a cell of the grid. -/
import Derived.Test.YtkdkdejgajcneaaDiceS
import Derived.Test.YtkdkdejgajcneaaAppend
import Derived.Test.YtkdkdejgajcneaaSVec
namespace Go.Proofs.Ytkdkdejgajcneaa
open Go Go.RowKit
set_option linter.unusedVariables false
/-- The camera and the patch in two boxes. -/
structure CPBox (w : World) (B : Nat) (c : CamD) (p : PatD) : Prop where
  cam : w.heap[B]? = some (.cells ⟨c.cells⟩ 24 (0, 0))
  pat : w.heap[B + 1]? = some (.cells ⟨p.cells⟩ 30 (0, 0))
theorem CPBox.cc {w : World} {B : Nat} {c : CamD} {p : PatD} (h : CPBox w B c p) (j : Nat) : w.cell? ⟨B, j, none⟩ = c.cells[j]? := by
  rw [cell_of_row w B j ⟨c.cells⟩ _ (0, 0) h.cam]; simp
theorem CPBox.cp {w : World} {B : Nat} {c : CamD} {p : PatD} (h : CPBox w B c p) (j : Nat) : w.cell? ⟨B + 1, j, none⟩ = p.cells[j]? := by
  rw [cell_of_row w (B + 1) j ⟨p.cells⟩ _ (0, 0) h.pat]; simp
theorem CPBox.kept {w w' : World} {B : Nat} {c : CamD} {p : PatD} (h : CPBox w B c p) (hb : Below w.heap.size w w') : CPBox w' B c p :=
  ⟨by rw [hb.block _ (Array.getElem?_eq_some_iff.1 h.cam).1]; exact h.cam, by rw [hb.block _ (Array.getElem?_eq_some_iff.1 h.pat).1]; exact h.pat⟩
theorem CPBox.new (w : World) (c : CamD) (p : PatD) : CPBox ((w.alloc (.cells ⟨c.cells⟩ 24)).alloc (.cells ⟨p.cells⟩ 30)) w.heap.size c p :=
  ⟨by rw [Below.block (Below.alloc (Below.refl _ _) (Nat.le_refl _) _) _ (by simp), heap_alloc_new], by rw [heap_at_new (by simp)]⟩
/-- append of one vector onto an own row. -/
theorem wpList_append_vec {w : World} {ops : Array Oper} {rest : List Oper} {o : Oper} {a : Act} {Q : Exit → Act → World → Prop} (hgd : o.guard = none) (s x : Operand)
    (ho : o.op = .call { callee := .builtin .append, args := #[s, x], argTypes := #[110, 110] })
    (base : Nat) (v : Value) (n : Nat) (xs : List Value) (hs : a.eval s = v) (hown : w.ownsRow base 27 3 v n xs)
    (g : Nat) (p : VecD) (hx : a.eval x = .slice (some ⟨g, 0, none⟩) 1 1) (hg : w.heap[g]? = some (.cells ⟨p.cells⟩ 27 (0, 0))) (hn : n ≤ 1000) (hbase : base ≤ w.heap.size)
    (h : ∀ v' w', w'.ownsRow base 27 3 v' (n + 1) (xs ++ p.cells) → Below base w w' → wpList Try.prog ops Q rest (a.put o.dst v') w') : wpList Try.prog ops Q (o :: rest) a w := by
  obtain ⟨i0, hi, hz0, hz1, hz2⟩ := info_parts info_VecC
  refine wpList_append_own w hgd s x 110 ho base 27 i0 _ 3 24 Try.underlying110 hi hz0 hz1 hz2 rfl (by decide) v n xs hs hown ⟨g, 0, none⟩ 1 1 p.cells hx rfl ?_ ?_ (by simp only [maxLen]; omega) (by omega) hbase ?_
  · intro j u hu
    rw [show (⟨g, 0, none⟩ : Addr).add j = ⟨g, j, none⟩ by (simp only [Addr.add, Nat.zero_add]; split <;> simp_all), cell_of_row w g j ⟨p.cells⟩ _ (0, 0) hg]
    simpa using hu
  · intro u hu
    simp only [VecD.cells, List.mem_cons, List.not_mem_nil, or_false] at hu
    rcases hu with rfl | rfl | rfl <;> rfl
  · intro v' w' h1 h2 _
    exact h v' w' h1 (Below.grown (Below.refl _ _) h2 hbase (fun k hk => (hown.lt k hk).1))
set_option maxRecDepth 100000 in
set_option maxHeartbeats 8000000 in
theorem spec_DiceCell_in (c : CamD) (p : PatD) (u v n lx ly : Int) (w : World) (hin : dcIn u v n = true) :
    Calls Try.prog 25 #[c.val, p.val, .int .i64 u, .int .i64 v, .int .i64 n, .int .i64 lx, .int .i64 ly] w (CellQ w (dcD c p u v n lx ly)) := by
  obtain ⟨⟨hn1, hn2⟩, ⟨hu1, hu2⟩, hv1, hv2⟩ := dcIn_bd hin
  have hh := hin
  simp only [dcIn, Bool.and_eq_true] at hh
  obtain ⟨⟨o1, o2⟩, o3⟩ := hh
  have HF := Lib.hid (four 72 51 c p u v n lx ly hin (fun i j h => spec_pt c p i j n lx ly h))
  have HBX := Lib.hid (CPBox.new w c p)
  generalize ptAt c p u v n lx ly = PT at *
  generalize okAt c p u v n lx ly = OK at *
  generalize dcD c p u v n lx ly = DD at *
  have qz0 : IntKind.i64.wrap 0 = 0 := by decide
  have qz1 : IntKind.i64.wrap 1 = 1 := by decide
  have qu0 : IntKind.i64.wrap u = u := IntWalk.i64_in _ (by omega)
  have qv0 : IntKind.i64.wrap v = v := IntWalk.i64_in _ (by omega)
  have qu1 : IntKind.i64.wrap (u + 1) = u + 1 := IntWalk.i64_in _ (by omega)
  have qv1 : IntKind.i64.wrap (v + 1) = v + 1 := IntWalk.i64_in _ (by omega)
  have qn1 : IntKind.i64.wrap (n - 1) = n - 1 := IntWalk.i64_in _ (by omega)
  obtain ⟨i0, hi, hz0, hz1, hz2⟩ := info_parts info_VecC
  clear hin
  obtain ⟨BW, hBW⟩ : ∃ BW, BW = (w.alloc (.cells ⟨c.cells⟩ 24)).alloc (.cells ⟨p.cells⟩ 30) := ⟨_, rfl⟩
  have HB0 := Lib.hid (show Below w.heap.size w BW by rw [hBW]; exact (by repeat (first | exact Below.refl _ _ | refine Below.drew ?_ | refine Below.alloc ?_ (by first | exact Nat.le_refl _ | (simp; done) | (simp; omega) | omega) _ | refine Below.more ?_ (by first | exact Nat.le_refl _ | (simp; done) | (simp; omega) | omega) _ _ | refine Below.setCell ?_ (by first | exact Nat.le_refl _ | (simp; done) | (simp; omega) | omega) _ | assumption)))
  have hsz : w.heap.size + 1 < BW.heap.size := by rw [hBW]; simp
  have hsz0 : w.heap.size < BW.heap.size := by omega
  have HB1 := Lib.hid (show Below BW.heap.size BW (BW.alloc (.cells #[] 27)) from (by repeat (first | exact Below.refl _ _ | refine Below.drew ?_ | refine Below.alloc ?_ (by first | exact Nat.le_refl _ | (simp; done) | (simp; omega) | omega) _ | refine Below.more ?_ (by first | exact Nat.le_refl _ | (simp; done) | (simp; omega) | omega) _ _ | refine Below.setCell ?_ (by first | exact Nat.le_refl _ | (simp; done) | (simp; omega) | omega) _ | assumption)))
  have HB2 := Lib.hid (show (BW.alloc (.cells #[] 27)).ownsRow BW.heap.size 27 3 (.slice (some ⟨w.heap.size + 1 + 1, 0, none⟩) 0 0) 0 [] by
    have := World.ownsRow_made (e := 27) (size := 3) (base := BW.heap.size) BW #[] 0 (by simp) (by decide) (by simp)
    rwa [show BW.heap.size = w.heap.size + 1 + 1 by rw [hBW]; simp] at this ⊢)
  rw [← hBW] at HBX
  have HW := Lib.hid hBW
  clear hBW
  go_enter Try.func25, Try.ntmps25
  go_wp2_with (go_at_call 68; refine (l01In_c _ _ _ _).mono ?_; (first | rw [o1] | rw [o2] | rw [o3]); rintro e w' ⟨rfl, rfl⟩)
  go_loopw [15, 16] (fun out i wr => ∃ k : Nat, k ≤ 4 ∧ i = .int .i64 k ∧ Below BW.heap.size BW wr ∧ wr.ownsRow BW.heap.size 27 3 out k (flat 3 k (fun i => (PT i).cells)) ∧ ∀ j, j < k → OK j = true) (fun _ i _ => 4 - (intOf i).toNat)
  case atStart =>
    have hW := HW.out
    refine ⟨0, by omega, rfl, ?_, ?_, fun j hj => by omega⟩
    · have := HB1.out; rw [hW] at this ⊢; exact this
    · have := HB2.out; rw [hW] at this ⊢; exact this
  case round =>
    obtain ⟨k, hk, rfl, hbel, hown, hoks⟩ := hrel
    have hbx := HBX.out.kept hbel
    have hl1 : w.heap.size + 1 < wr.heap.size := by have := hbel.size; omega
    have hl0 : w.heap.size < wr.heap.size := by omega
    have HOWN := Lib.hid hown
    have HOKS := Lib.hid hoks
    have HBEL := Lib.hid hbel
    clear hown hoks hbel
    by_cases hlt : k < 4
    · have c0 : wr.cell? ⟨w.heap.size, 0, none⟩ = some (.int .i64 c.W) := hbx.cc 0
      have c1 : wr.cell? ⟨w.heap.size, 1, none⟩ = some (.int .i64 c.H) := hbx.cc 1
      have c2 : wr.cell? ⟨w.heap.size, 2, none⟩ = some (.int .i64 c.Z) := hbx.cc 2
      have c3 : wr.cell? ⟨w.heap.size, 3, none⟩ = some (.int .i64 c.N) := hbx.cc 3
      have c4 : wr.cell? ⟨w.heap.size, 4, none⟩ = some (.bool c.D) := hbx.cc 4
      have c5 : wr.cell? ⟨w.heap.size, 5, none⟩ = some (.int .i64 c.L) := hbx.cc 5
      have c6 : wr.cell? ⟨w.heap.size, 6, none⟩ = some (.int .i64 c.F) := hbx.cc 6
      have d0 : wr.cell? ⟨w.heap.size + 1, 0, none⟩ = some (.int .i64 p.t0) := hbx.cp 0
      have d1 : wr.cell? ⟨w.heap.size + 1, 1, none⟩ = some (.int .i64 p.t1) := hbx.cp 1
      have d2 : wr.cell? ⟨w.heap.size + 1, 2, none⟩ = some (.int .i64 p.t2) := hbx.cp 2
      have d3 : wr.cell? ⟨w.heap.size + 1, 3, none⟩ = some (.int .i64 p.t3) := hbx.cp 3
      have d4 : wr.cell? ⟨w.heap.size + 1, 4, none⟩ = some (.int .i64 p.t4) := hbx.cp 4
      have d5 : wr.cell? ⟨w.heap.size + 1, 5, none⟩ = some (.int .i64 p.t5) := hbx.cp 5
      have d6 : wr.cell? ⟨w.heap.size + 1, 6, none⟩ = some (.int .i64 p.t6) := hbx.cp 6
      have d7 : wr.cell? ⟨w.heap.size + 1, 7, none⟩ = some (.int .i64 p.t7) := hbx.cp 7
      have d8 : wr.cell? ⟨w.heap.size + 1, 8, none⟩ = some (.int .i64 p.t8) := hbx.cp 8
      have d9 : wr.cell? ⟨w.heap.size + 1, 9, none⟩ = some (.int .i64 p.t9) := hbx.cp 9
      have d10 : wr.cell? ⟨w.heap.size + 1, 10, none⟩ = some (.int .i64 p.t10) := hbx.cp 10
      have d11 : wr.cell? ⟨w.heap.size + 1, 11, none⟩ = some (.int .i64 p.t11) := hbx.cp 11
      clear hbx
      have hkk : k = 0 ∨ k = 1 ∨ k = 2 ∨ k = 3 := by omega
      rcases hkk with rfl | rfl | rfl | rfl
      · obtain ⟨ex, ey, ez, HPt⟩ := HF.out.h0
        have HP := Lib.hid HPt
        have HS := Lib.hid (show flat 3 (0 + 1) (fun i => (PT i).cells) = flat 3 0 (fun i => (PT i).cells) ++ (PT 0).cells from flat_succ 3 0 _)
        have HNO := Lib.hid (HF.out.no 0 (by omega))
        clear HPt HF
        generalize hok : OK 0 = ok at *
        have HOK := Lib.hid hok
        clear hok
        go_wp2
        refine region_box0 18 27 [.int .i64 0, .int .i64 0, .int .i64 0] [.int .i64 (PT 0).f0, .int .i64 (PT 0).f1, .int .i64 (PT 0).f2] (by kernel_rfl) (by kernel_rfl) ?_
        simp only [List.take_succ_cons, List.take_zero, List.drop_succ_cons, List.drop_zero]
        repeat (refine headS_step (fun K hK => ?_); go_simp; refine hK _ ?_; clear hK K)
        (refine headS_step (fun K hK => ?_); go_simp; refine ⟨_, fun zt => calls_stays (HP.out.ev _), hK _ ?_⟩; clear hK K)
        repeat (refine headS_step (fun K hK => ?_); go_simp; refine hK _ ?_; clear hK K)
        (refine headS_step (fun K hK => ?_); go_simp; refine ⟨_, fun zt => calls_stays (HP.out.pr _), hK _ ?_⟩; clear hK K)
        repeat (refine headS_step (fun K hK => ?_); go_simp; refine hK _ ?_; clear hK K)
        refine headS_nil ?_
        refine tail_box (by go_simp) (fun X d => by go_simp) (fun b => by go_simp) (fun b w hb => by go_simp) (fun b => ?_)
        refine tail_quiet (v := .bool ok) (by go_simp) (fun w => by go_simp) ?_
        refine tail_done (fun X1 X2 d1 hb => ?_)
        subst hb
        simp only [Act.put, List.setIfInBounds_toArray, List.set_cons_zero, List.set_cons_succ]
        cases ok
        · go_wp2
          go_ret
          rw [HNO.out (by simp)]
          refine ⟨?_, .inl ⟨rfl, rfl⟩⟩
          exact (HB0.out.trans (Below.mono HBEL.out (Nat.le_of_lt hsz0))).trans (Below.mono (show Below wr.heap.size wr _ from (by repeat (first | exact Below.refl _ _ | refine Below.drew ?_ | refine Below.alloc ?_ (by first | exact Nat.le_refl _ | (simp; done) | (simp; omega) | omega) _ | refine Below.more ?_ (by first | exact Nat.le_refl _ | (simp; done) | (simp; omega) | omega) _ _ | refine Below.setCell ?_ (by first | exact Nat.le_refl _ | (simp; done) | (simp; omega) | omega) _ | assumption))) (by omega))
        · go_wp2_with (at_builtin; go_loud (refine wpList_append_vec rfl _ _ rfl BW.heap.size _ 0 _ rfl (own_kept HOWN.out (by repeat (first | exact Below.refl _ _ | refine Below.drew ?_ | refine Below.alloc ?_ (by first | exact Nat.le_refl _ | (simp; done) | (simp; omega) | omega) _ | refine Below.more ?_ (by first | exact Nat.le_refl _ | (simp; done) | (simp; omega) | omega) _ _ | refine Below.setCell ?_ (by first | exact Nat.le_refl _ | (simp; done) | (simp; omega) | omega) _ | assumption))) _ (PT 0) rfl ?b3 (by omega) ?b4 ?_))
          case b3 => exact heap_at_new (by first | rfl | (simp; done) | (simp; omega))
          case b4 => have := HBEL.out.size; first | omega | (simp; omega)
          intro v' w' hp' hb'
          have HP' := Lib.hid hp'
          have HB' := Lib.hid (Below.trans (Below.trans HBEL.out (Below.mono (show Below wr.heap.size wr _ from (by repeat (first | exact Below.refl _ _ | refine Below.drew ?_ | refine Below.alloc ?_ (by first | exact Nat.le_refl _ | (simp; done) | (simp; omega) | omega) _ | refine Below.more ?_ (by first | exact Nat.le_refl _ | (simp; done) | (simp; omega) | omega) _ _ | refine Below.setCell ?_ (by first | exact Nat.le_refl _ | (simp; done) | (simp; omega) | omega) _ | assumption))) HBEL.out.size)) hb')
          have HOK2 := Lib.hid (show ∀ j, j < 0 + 1 → OK j = true from fun j hj => by
            by_cases h : j = 0
            · rw [h]; exact HOK.out
            · exact HOKS.out j (by omega))
          clear hp' hb'
          go_wp2
          go_roundw
          case rel => exact ⟨0 + 1, by omega, by go_num, HB'.out, by rw [HS.out]; exact HP'.out, HOK2.out⟩
          case measure => simp [intOf]
      · obtain ⟨ex, ey, ez, HPt⟩ := HF.out.h1
        have HP := Lib.hid HPt
        have HS := Lib.hid (show flat 3 (1 + 1) (fun i => (PT i).cells) = flat 3 1 (fun i => (PT i).cells) ++ (PT 1).cells from flat_succ 3 1 _)
        have HNO := Lib.hid (HF.out.no 1 (by omega))
        clear HPt HF
        generalize hok : OK 1 = ok at *
        have HOK := Lib.hid hok
        clear hok
        go_wp2
        refine region_box0 18 27 [.int .i64 0, .int .i64 0, .int .i64 0] [.int .i64 (PT 1).f0, .int .i64 (PT 1).f1, .int .i64 (PT 1).f2] (by kernel_rfl) (by kernel_rfl) ?_
        simp only [List.take_succ_cons, List.take_zero, List.drop_succ_cons, List.drop_zero]
        repeat (refine headS_step (fun K hK => ?_); go_simp; refine hK _ ?_; clear hK K)
        (refine headS_step (fun K hK => ?_); go_simp; refine ⟨_, fun zt => calls_stays (HP.out.ev _), hK _ ?_⟩; clear hK K)
        repeat (refine headS_step (fun K hK => ?_); go_simp; refine hK _ ?_; clear hK K)
        (refine headS_step (fun K hK => ?_); go_simp; refine ⟨_, fun zt => calls_stays (HP.out.pr _), hK _ ?_⟩; clear hK K)
        repeat (refine headS_step (fun K hK => ?_); go_simp; refine hK _ ?_; clear hK K)
        refine headS_nil ?_
        refine tail_box (by go_simp) (fun X d => by go_simp) (fun b => by go_simp) (fun b w hb => by go_simp) (fun b => ?_)
        refine tail_quiet (v := .bool ok) (by go_simp) (fun w => by go_simp) ?_
        refine tail_done (fun X1 X2 d1 hb => ?_)
        subst hb
        simp only [Act.put, List.setIfInBounds_toArray, List.set_cons_zero, List.set_cons_succ]
        cases ok
        · go_wp2
          go_ret
          rw [HNO.out (by simp)]
          refine ⟨?_, .inl ⟨rfl, rfl⟩⟩
          exact (HB0.out.trans (Below.mono HBEL.out (Nat.le_of_lt hsz0))).trans (Below.mono (show Below wr.heap.size wr _ from (by repeat (first | exact Below.refl _ _ | refine Below.drew ?_ | refine Below.alloc ?_ (by first | exact Nat.le_refl _ | (simp; done) | (simp; omega) | omega) _ | refine Below.more ?_ (by first | exact Nat.le_refl _ | (simp; done) | (simp; omega) | omega) _ _ | refine Below.setCell ?_ (by first | exact Nat.le_refl _ | (simp; done) | (simp; omega) | omega) _ | assumption))) (by omega))
        · go_wp2_with (at_builtin; go_loud (refine wpList_append_vec rfl _ _ rfl BW.heap.size _ 1 _ rfl (own_kept HOWN.out (by repeat (first | exact Below.refl _ _ | refine Below.drew ?_ | refine Below.alloc ?_ (by first | exact Nat.le_refl _ | (simp; done) | (simp; omega) | omega) _ | refine Below.more ?_ (by first | exact Nat.le_refl _ | (simp; done) | (simp; omega) | omega) _ _ | refine Below.setCell ?_ (by first | exact Nat.le_refl _ | (simp; done) | (simp; omega) | omega) _ | assumption))) _ (PT 1) rfl ?b3 (by omega) ?b4 ?_))
          case b3 => exact heap_at_new (by first | rfl | (simp; done) | (simp; omega))
          case b4 => have := HBEL.out.size; first | omega | (simp; omega)
          intro v' w' hp' hb'
          have HP' := Lib.hid hp'
          have HB' := Lib.hid (Below.trans (Below.trans HBEL.out (Below.mono (show Below wr.heap.size wr _ from (by repeat (first | exact Below.refl _ _ | refine Below.drew ?_ | refine Below.alloc ?_ (by first | exact Nat.le_refl _ | (simp; done) | (simp; omega) | omega) _ | refine Below.more ?_ (by first | exact Nat.le_refl _ | (simp; done) | (simp; omega) | omega) _ _ | refine Below.setCell ?_ (by first | exact Nat.le_refl _ | (simp; done) | (simp; omega) | omega) _ | assumption))) HBEL.out.size)) hb')
          have HOK2 := Lib.hid (show ∀ j, j < 1 + 1 → OK j = true from fun j hj => by
            by_cases h : j = 1
            · rw [h]; exact HOK.out
            · exact HOKS.out j (by omega))
          clear hp' hb'
          go_wp2
          go_roundw
          case rel => exact ⟨1 + 1, by omega, by go_num, HB'.out, by rw [HS.out]; exact HP'.out, HOK2.out⟩
          case measure => simp [intOf]
      · obtain ⟨ex, ey, ez, HPt⟩ := HF.out.h2
        have HP := Lib.hid HPt
        have HS := Lib.hid (show flat 3 (2 + 1) (fun i => (PT i).cells) = flat 3 2 (fun i => (PT i).cells) ++ (PT 2).cells from flat_succ 3 2 _)
        have HNO := Lib.hid (HF.out.no 2 (by omega))
        clear HPt HF
        generalize hok : OK 2 = ok at *
        have HOK := Lib.hid hok
        clear hok
        go_wp2
        refine region_box0 18 27 [.int .i64 0, .int .i64 0, .int .i64 0] [.int .i64 (PT 2).f0, .int .i64 (PT 2).f1, .int .i64 (PT 2).f2] (by kernel_rfl) (by kernel_rfl) ?_
        simp only [List.take_succ_cons, List.take_zero, List.drop_succ_cons, List.drop_zero]
        repeat (refine headS_step (fun K hK => ?_); go_simp; refine hK _ ?_; clear hK K)
        (refine headS_step (fun K hK => ?_); go_simp; refine ⟨_, fun zt => calls_stays (HP.out.ev _), hK _ ?_⟩; clear hK K)
        repeat (refine headS_step (fun K hK => ?_); go_simp; refine hK _ ?_; clear hK K)
        (refine headS_step (fun K hK => ?_); go_simp; refine ⟨_, fun zt => calls_stays (HP.out.pr _), hK _ ?_⟩; clear hK K)
        repeat (refine headS_step (fun K hK => ?_); go_simp; refine hK _ ?_; clear hK K)
        refine headS_nil ?_
        refine tail_box (by go_simp) (fun X d => by go_simp) (fun b => by go_simp) (fun b w hb => by go_simp) (fun b => ?_)
        refine tail_quiet (v := .bool ok) (by go_simp) (fun w => by go_simp) ?_
        refine tail_done (fun X1 X2 d1 hb => ?_)
        subst hb
        simp only [Act.put, List.setIfInBounds_toArray, List.set_cons_zero, List.set_cons_succ]
        cases ok
        · go_wp2
          go_ret
          rw [HNO.out (by simp)]
          refine ⟨?_, .inl ⟨rfl, rfl⟩⟩
          exact (HB0.out.trans (Below.mono HBEL.out (Nat.le_of_lt hsz0))).trans (Below.mono (show Below wr.heap.size wr _ from (by repeat (first | exact Below.refl _ _ | refine Below.drew ?_ | refine Below.alloc ?_ (by first | exact Nat.le_refl _ | (simp; done) | (simp; omega) | omega) _ | refine Below.more ?_ (by first | exact Nat.le_refl _ | (simp; done) | (simp; omega) | omega) _ _ | refine Below.setCell ?_ (by first | exact Nat.le_refl _ | (simp; done) | (simp; omega) | omega) _ | assumption))) (by omega))
        · go_wp2_with (at_builtin; go_loud (refine wpList_append_vec rfl _ _ rfl BW.heap.size _ 2 _ rfl (own_kept HOWN.out (by repeat (first | exact Below.refl _ _ | refine Below.drew ?_ | refine Below.alloc ?_ (by first | exact Nat.le_refl _ | (simp; done) | (simp; omega) | omega) _ | refine Below.more ?_ (by first | exact Nat.le_refl _ | (simp; done) | (simp; omega) | omega) _ _ | refine Below.setCell ?_ (by first | exact Nat.le_refl _ | (simp; done) | (simp; omega) | omega) _ | assumption))) _ (PT 2) rfl ?b3 (by omega) ?b4 ?_))
          case b3 => exact heap_at_new (by first | rfl | (simp; done) | (simp; omega))
          case b4 => have := HBEL.out.size; first | omega | (simp; omega)
          intro v' w' hp' hb'
          have HP' := Lib.hid hp'
          have HB' := Lib.hid (Below.trans (Below.trans HBEL.out (Below.mono (show Below wr.heap.size wr _ from (by repeat (first | exact Below.refl _ _ | refine Below.drew ?_ | refine Below.alloc ?_ (by first | exact Nat.le_refl _ | (simp; done) | (simp; omega) | omega) _ | refine Below.more ?_ (by first | exact Nat.le_refl _ | (simp; done) | (simp; omega) | omega) _ _ | refine Below.setCell ?_ (by first | exact Nat.le_refl _ | (simp; done) | (simp; omega) | omega) _ | assumption))) HBEL.out.size)) hb')
          have HOK2 := Lib.hid (show ∀ j, j < 2 + 1 → OK j = true from fun j hj => by
            by_cases h : j = 2
            · rw [h]; exact HOK.out
            · exact HOKS.out j (by omega))
          clear hp' hb'
          go_wp2
          go_roundw
          case rel => exact ⟨2 + 1, by omega, by go_num, HB'.out, by rw [HS.out]; exact HP'.out, HOK2.out⟩
          case measure => simp [intOf]
      · obtain ⟨ex, ey, ez, HPt⟩ := HF.out.h3
        have HP := Lib.hid HPt
        have HS := Lib.hid (show flat 3 (3 + 1) (fun i => (PT i).cells) = flat 3 3 (fun i => (PT i).cells) ++ (PT 3).cells from flat_succ 3 3 _)
        have HNO := Lib.hid (HF.out.no 3 (by omega))
        clear HPt HF
        generalize hok : OK 3 = ok at *
        have HOK := Lib.hid hok
        clear hok
        go_wp2
        refine region_box0 18 27 [.int .i64 0, .int .i64 0, .int .i64 0] [.int .i64 (PT 3).f0, .int .i64 (PT 3).f1, .int .i64 (PT 3).f2] (by kernel_rfl) (by kernel_rfl) ?_
        simp only [List.take_succ_cons, List.take_zero, List.drop_succ_cons, List.drop_zero]
        repeat (refine headS_step (fun K hK => ?_); go_simp; refine hK _ ?_; clear hK K)
        (refine headS_step (fun K hK => ?_); go_simp; refine ⟨_, fun zt => calls_stays (HP.out.ev _), hK _ ?_⟩; clear hK K)
        repeat (refine headS_step (fun K hK => ?_); go_simp; refine hK _ ?_; clear hK K)
        (refine headS_step (fun K hK => ?_); go_simp; refine ⟨_, fun zt => calls_stays (HP.out.pr _), hK _ ?_⟩; clear hK K)
        repeat (refine headS_step (fun K hK => ?_); go_simp; refine hK _ ?_; clear hK K)
        refine headS_nil ?_
        refine tail_box (by go_simp) (fun X d => by go_simp) (fun b => by go_simp) (fun b w hb => by go_simp) (fun b => ?_)
        refine tail_quiet (v := .bool ok) (by go_simp) (fun w => by go_simp) ?_
        refine tail_done (fun X1 X2 d1 hb => ?_)
        subst hb
        simp only [Act.put, List.setIfInBounds_toArray, List.set_cons_zero, List.set_cons_succ]
        cases ok
        · go_wp2
          go_ret
          rw [HNO.out (by simp)]
          refine ⟨?_, .inl ⟨rfl, rfl⟩⟩
          exact (HB0.out.trans (Below.mono HBEL.out (Nat.le_of_lt hsz0))).trans (Below.mono (show Below wr.heap.size wr _ from (by repeat (first | exact Below.refl _ _ | refine Below.drew ?_ | refine Below.alloc ?_ (by first | exact Nat.le_refl _ | (simp; done) | (simp; omega) | omega) _ | refine Below.more ?_ (by first | exact Nat.le_refl _ | (simp; done) | (simp; omega) | omega) _ _ | refine Below.setCell ?_ (by first | exact Nat.le_refl _ | (simp; done) | (simp; omega) | omega) _ | assumption))) (by omega))
        · go_wp2_with (at_builtin; go_loud (refine wpList_append_vec rfl _ _ rfl BW.heap.size _ 3 _ rfl (own_kept HOWN.out (by repeat (first | exact Below.refl _ _ | refine Below.drew ?_ | refine Below.alloc ?_ (by first | exact Nat.le_refl _ | (simp; done) | (simp; omega) | omega) _ | refine Below.more ?_ (by first | exact Nat.le_refl _ | (simp; done) | (simp; omega) | omega) _ _ | refine Below.setCell ?_ (by first | exact Nat.le_refl _ | (simp; done) | (simp; omega) | omega) _ | assumption))) _ (PT 3) rfl ?b3 (by omega) ?b4 ?_))
          case b3 => exact heap_at_new (by first | rfl | (simp; done) | (simp; omega))
          case b4 => have := HBEL.out.size; first | omega | (simp; omega)
          intro v' w' hp' hb'
          have HP' := Lib.hid hp'
          have HB' := Lib.hid (Below.trans (Below.trans HBEL.out (Below.mono (show Below wr.heap.size wr _ from (by repeat (first | exact Below.refl _ _ | refine Below.drew ?_ | refine Below.alloc ?_ (by first | exact Nat.le_refl _ | (simp; done) | (simp; omega) | omega) _ | refine Below.more ?_ (by first | exact Nat.le_refl _ | (simp; done) | (simp; omega) | omega) _ _ | refine Below.setCell ?_ (by first | exact Nat.le_refl _ | (simp; done) | (simp; omega) | omega) _ | assumption))) HBEL.out.size)) hb')
          have HOK2 := Lib.hid (show ∀ j, j < 3 + 1 → OK j = true from fun j hj => by
            by_cases h : j = 3
            · rw [h]; exact HOK.out
            · exact HOKS.out j (by omega))
          clear hp' hb'
          go_wp2
          go_roundw
          case rel => exact ⟨3 + 1, by omega, by go_num, HB'.out, by rw [HS.out]; exact HP'.out, HOK2.out⟩
          case measure => simp [intOf]
    · obtain rfl : k = 4 := by omega
      have HDD := Lib.hid (HF.out.ok HOKS.out)
      have hf : flat 3 4 (fun i => (PT i).cells) = [.int .i64 (PT 0).f0, .int .i64 (PT 0).f1, .int .i64 (PT 0).f2, .int .i64 (PT 1).f0, .int .i64 (PT 1).f1, .int .i64 (PT 1).f2, .int .i64 (PT 2).f0, .int .i64 (PT 2).f1, .int .i64 (PT 2).f2, .int .i64 (PT 3).f0, .int .i64 (PT 3).f1, .int .i64 (PT 3).f2] := rfl
      have ho := HOWN.out
      rw [hf] at ho
      obtain ⟨g, cap, rfl⟩ := own_form ho (by decide)
      have hca := fun j hj => ho.cellAt j hj
      have hg : g < wr.heap.size := (ho.lt g rfl).2
      have e0 : wr.cell? ⟨g, 0, none⟩ = some (.int .i64 (PT 0).f0) := hca 0 (by decide)
      have e1 : wr.cell? ⟨g, 1, none⟩ = some (.int .i64 (PT 0).f1) := hca 1 (by decide)
      have e2 : wr.cell? ⟨g, 2, none⟩ = some (.int .i64 (PT 0).f2) := hca 2 (by decide)
      have e3 : wr.cell? ⟨g, 3, none⟩ = some (.int .i64 (PT 1).f0) := hca 3 (by decide)
      have e4 : wr.cell? ⟨g, 4, none⟩ = some (.int .i64 (PT 1).f1) := hca 4 (by decide)
      have e5 : wr.cell? ⟨g, 5, none⟩ = some (.int .i64 (PT 1).f2) := hca 5 (by decide)
      have e6 : wr.cell? ⟨g, 6, none⟩ = some (.int .i64 (PT 2).f0) := hca 6 (by decide)
      have e7 : wr.cell? ⟨g, 7, none⟩ = some (.int .i64 (PT 2).f1) := hca 7 (by decide)
      have e8 : wr.cell? ⟨g, 8, none⟩ = some (.int .i64 (PT 2).f2) := hca 8 (by decide)
      have e9 : wr.cell? ⟨g, 9, none⟩ = some (.int .i64 (PT 3).f0) := hca 9 (by decide)
      have e10 : wr.cell? ⟨g, 10, none⟩ = some (.int .i64 (PT 3).f1) := hca 10 (by decide)
      have e11 : wr.cell? ⟨g, 11, none⟩ = some (.int .i64 (PT 3).f2) := hca 11 (by decide)
      clear hca ho hf HF HOKS HOWN
      go_wp2
      refine region_qt 30 (by kernel_rfl) (by kernel_rfl) ?_
      simp only [List.take_succ_cons, List.take_zero, List.drop_succ_cons, List.drop_zero]
      repeat (quiet_step (fail))
      (refine wpQuiet_nil ?_; intro X nX)
      go_wp2
      go_ret
      rw [HDD.out]
      refine ⟨?_, .inr ⟨rfl, _, rfl, ?_, ?_⟩⟩
      · exact (HB0.out.trans (Below.mono HBEL.out (Nat.le_of_lt hsz0))).trans (Below.mono (show Below wr.heap.size wr _ from (by repeat (first | exact Below.refl _ _ | refine Below.drew ?_ | refine Below.alloc ?_ (by first | exact Nat.le_refl _ | (simp; done) | (simp; omega) | omega) _ | refine Below.more ?_ (by first | exact Nat.le_refl _ | (simp; done) | (simp; omega) | omega) _ _ | refine Below.setCell ?_ (by first | exact Nat.le_refl _ | (simp; done) | (simp; omega) | omega) _ | assumption))) (by omega))
      · first | omega | (simp; omega)
      · rw [heap_at_new (by first | rfl | (simp; done))]; rfl
end Go.Proofs.Ytkdkdejgajcneaa
