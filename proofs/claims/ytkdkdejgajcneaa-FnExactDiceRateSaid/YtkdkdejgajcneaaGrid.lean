/- Contract of spec.l10Grid: the rows of the grid's points. -/
import Derived.Test.YtkdkdejgajcneaaFine
namespace Go.Proofs.Ytkdkdejgajcneaa
open Go Go.RowKit
set_option linter.unusedVariables false
theorem ownsRow_base2 {w : World} {b b' : Nat} {e : TypeId} {s : Nat} {v : Value} {n : Nat} {xs : List Value} (h : w.ownsRow b e s v n xs) (hb : b' ≤ b) : w.ownsRow b' e s v n xs :=
  ⟨h.1, h.2.imp id fun ⟨g, cap, cur, e1, e2, r⟩ => ⟨g, cap, cur, e1, Nat.le_trans hb e2, r⟩⟩
/-- Block b holds the cells xs first, and lies from base on. -/
def RowB (W : World) (base b : Nat) (xs : List Value) : Prop := base ≤ b ∧ ∃ cur : Array Value, W.heap[b]? = some (.cells cur 27 (0, 0)) ∧ ∀ j, j < xs.length → cur[j]? = xs[j]?
theorem RowB.of {W : World} {base base' n : Nat} {v : Value} {xs : List Value} (h : W.ownsRow base 27 3 v n xs) (hn : 0 < n) (hx : xs.length = n * 3) (hb : base' ≤ base) : ∃ g cap, v = .slice (some ⟨g, 0, none⟩) n cap ∧ RowB W base' g xs := by
  rcases h.2 with ⟨_, h0⟩ | ⟨g, cap, cur, rfl, hlo, hg, hnc, hcm, hcs, ht⟩
  · omega
  · refine ⟨g, cap, rfl, Nat.le_trans hb hlo, cur, hg, fun j hj => ?_⟩
    rw [← ht, List.getElem?_take, if_pos (by omega)]
    simp

theorem RowB.below {W W' : World} {base b : Nat} {xs : List Value} (h : RowB W base b xs) (hb : Below W.heap.size W W') : RowB W' base b xs := by
  obtain ⟨h1, cur, h2, h3⟩ := h
  exact ⟨h1, cur, by rw [hb.block b (Array.getElem?_eq_some_iff.1 h2).1]; exact h2, h3⟩
theorem RowB.grown {W W' : World} {base b base' n : Nat} {v : Value} {ys xs : List Value} (h : RowB W base b xs) (ho : W.ownsRow base' 110 1 v n ys) (hg : W.grownBy W' v.ownBlock) : RowB W' base b xs := by
  obtain ⟨h1, cur, h2, h3⟩ := h
  refine ⟨h1, cur, ?_, h3⟩
  rw [hg.block b (Array.getElem?_eq_some_iff.1 h2).1 (fun e => ?_)]
  · exact h2
  · rcases ho.2 with ⟨rfl, _⟩ | ⟨g, cap, cur', rfl, _, hgb, _⟩
    · simp [Value.ownBlock] at e
    · obtain rfl : b = g := by simpa [Value.ownBlock] using e
      rw [hgb] at h2
      simp only [Option.some.injEq, Obj.cells.injEq] at h2
      exact absurd h2.2.1 (by decide)
theorem RowB.cell {W : World} {base b : Nat} {xs : List Value} (h : RowB W base b xs) (j : Nat) (hj : j < xs.length) : W.cell? ⟨b, j, none⟩ = xs[j]? := by
  obtain ⟨h1, cur, h2, h3⟩ := h
  rw [cell_of_row W b j cur _ (0, 0) h2, h3 j hj]
/-- The rows' headers. -/
def heads (N : Nat) (B K : Nat → Nat) (n : Nat) : List Value := (List.range n).map fun i => .slice (some ⟨B i, 0, none⟩) N (K i)
theorem heads_succ (N : Nat) (B K : Nat → Nat) (n : Nat) : heads N B K (n + 1) = heads N B K n ++ [.slice (some ⟨B n, 0, none⟩) N (K n)] := by simp [heads, List.range_succ]
theorem heads_congr (N : Nat) {B K B' K' : Nat → Nat} (n : Nat) (h : ∀ i, i < n → B i = B' i ∧ K i = K' i) : heads N B K n = heads N B' K' n := by
  unfold heads
  apply List.map_congr_left
  intro i hi
  rw [List.mem_range] at hi
  rw [(h i hi).1, (h i hi).2]
/-- The rows laid so far. -/
def GridO (W : World) (base : Nat) (v : Value) (N n : Nat) (CC : Nat → List Value) : Prop :=
  ∃ B K : Nat → Nat, W.ownsRow base 110 1 v n (heads N B K n) ∧ ∀ i, i < n → RowB W base (B i) (CC i)
theorem GridO.below {W W' : World} {base N n : Nat} {v : Value} {CC : Nat → List Value} (h : GridO W base v N n CC) (hb : Below W.heap.size W W') : GridO W' base v N n CC := by
  obtain ⟨B, K, h1, h2⟩ := h
  exact ⟨B, K, own_kept h1 hb, fun i hi => (h2 i hi).below hb⟩
/-- What a reader gets: row j's header, its cells. -/
theorem GridO.read {W : World} {base N n : Nat} {v : Value} {CC : Nat → List Value} (h : GridO W base v N n CC) (hc : ∀ i, i < n → (CC i).length = N * 3) {j : Nat} (hj : j < n) :
    ∃ g cap b kap, v = .slice (some ⟨g, 0, none⟩) n cap ∧ g < W.heap.size ∧ b < W.heap.size ∧ W.cell? ⟨g, j, none⟩ = some (.slice (some ⟨b, 0, none⟩) N kap) ∧ ∀ s, s < N * 3 → W.cell? ⟨b, s, none⟩ = (CC j)[s]? := by
  obtain ⟨B, K, h1, h2⟩ := h
  obtain ⟨g, cap, rfl⟩ := own_form_pos h1 (by omega)
  have hr := h2 j hj
  refine ⟨g, cap, B j, K j, rfl, (h1.lt g rfl).2, ?_, ?_, fun s hs => hr.cell s (by rw [hc j hj]; exact hs)⟩
  · obtain ⟨_, cur, h3, _⟩ := hr
    exact (Array.getElem?_eq_some_iff.1 h3).1
  · rw [h1.cellAt j (by omega)]
    simp [heads, hj]
theorem info_Vecs : (Try.prog.info? 110).map (fun i => (i.zero, i.size, i.bytes)) = some (some (.slice none 0 0), 1, 24) := by kernel_rfl
theorem wpList_append_head {w : World} {ops : Array Oper} {rest : List Oper} {o : Oper} {a : Act} {Q : Exit → Act → World → Prop} (hgd : o.guard = none) (s x : Operand)
    (ho : o.op = .call { callee := .builtin .append, args := #[s, x], argTypes := #[106, 106] })
    (base : Nat) (v : Value) (N n : Nat) (CC : Nat → List Value) (hs : a.eval s = v) (hown : GridO w base v N n CC)
    (g b cap : Nat) (hx : a.eval x = .slice (some ⟨g, 0, none⟩) 1 1) (hg : w.heap[g]? = some (.cells #[.slice (some ⟨b, 0, none⟩) N cap] 110 (0, 0))) (hrow : RowB w base b (CC n)) (hn : n ≤ 1000) (hbase : base ≤ w.heap.size)
    (h : ∀ v' w', GridO w' base v' N (n + 1) CC → Below base w w' → wpList Try.prog ops Q rest (a.put o.dst v') w') : wpList Try.prog ops Q (o :: rest) a w := by
  obtain ⟨B, K, hown, hrows⟩ := hown
  obtain ⟨i0, hi, hz0, hz1, hz2⟩ := info_parts info_Vecs
  refine wpList_append_own w hgd s x 106 ho base 110 i0 _ 1 24 Try.underlying106 hi hz0 hz1 hz2 rfl (by decide) v n _ hs hown ⟨g, 0, none⟩ 1 1 [.slice (some ⟨b, 0, none⟩) N cap] hx rfl ?_ ?_ (by simp only [maxLen]; omega) (by omega) hbase ?_
  · intro j u hu
    rw [show (⟨g, 0, none⟩ : Addr).add j = ⟨g, j, none⟩ by (simp only [Addr.add, Nat.zero_add]; split <;> simp_all), cell_of_row w g j ⟨[.slice (some ⟨b, 0, none⟩) N cap]⟩ _ (0, 0) hg]
    simpa using hu
  · intro u hu
    simp only [List.mem_cons, List.not_mem_nil, or_false] at hu
    subst hu; rfl
  · intro v' w' h1 h2 _
    refine h v' w' ⟨fun i => if i = n then b else B i, fun i => if i = n then cap else K i, ?_, fun i hi => ?_⟩ (Below.grown (Below.refl _ _) h2 hbase (fun k hk => (hown.lt k hk).1))
    · rw [heads_succ, heads_congr N (B' := B) (K' := K) n (fun i hi => by simp [Nat.ne_of_lt hi])]
      simpa using h1
    · by_cases hin : i = n
      · subst hin; simp only [if_true]; exact hrow.grown hown h2
      · simp only [hin, if_false]; exact (hrows i (by omega)).grown hown h2
/-- The points of row j. -/
def rowC (PT : Nat → Nat → VecD) (N j : Nat) : List Value := flat 3 N (fun i => (PT i j).cells)
theorem rowC_len (PT : Nat → Nat → VecD) (N j : Nat) : (rowC PT N j).length = N * 3 := flat_len (fun _ _ => rfl)
theorem rowC_at {PT : Nat → Nat → VecD} {N i : Nat} (hi : i < N) (j s : Nat) (hs : s < 3) : (rowC PT N j)[i * 3 + s]? = (PT i j).cells[s]? := flat_get (s := 3) (n := N) (C := fun i => (PT i j).cells) (fun _ _ => rfl) i hi s hs
/-- What l10Grid gives: a row of rows, or nothing. -/
def GridQ (w : World) (k : Nat) (PT : Nat → Nat → VecD) (OK : Nat → Nat → Bool) (e : Ending) (w' : World) : Prop :=
  Below w.heap.size w w' ∧ ((e = .returned (.tuple #[.slice none 0 0, .bool false]) ∧ ∃ i j, i ≤ k ∧ j ≤ k ∧ OK i j = false) ∨ (∃ v, e = .returned (.tuple #[v, .bool true]) ∧ GridO w' w.heap.size v (k + 1) (k + 1) (rowC PT (k + 1)) ∧ ∀ i j, i ≤ k → j ≤ k → OK i j = true))
set_option maxRecDepth 100000 in
set_option maxHeartbeats 16000000 in
theorem spec_grid_w (c : CamD) (p : PatD) (k : Nat) (hk8 : k ≤ 8) (PT : Nat → Nat → VecD) (OK : Nat → Nat → Bool)
    (hpt : ∀ i j, i ≤ k → j ≤ k → ∃ ex ey ez, PtC 72 51 c.val p.val (i : Int) (j : Int) (k : Int) 0 0 ex ey ez (PT i j).f0 (PT i j).f1 (PT i j).f2 (OK i j)) (w : World) :
    Calls Try.prog 69 #[c.val, p.val, .int .i64 (k : Int)] w (GridQ w k PT OK) := by
  have HPT := Lib.hid hpt
  have HRL := Lib.hid (fun j => rowC_len PT (k + 1) j)
  have HRC := Lib.hid (fun i j => flat_succ 3 i (fun i => (PT i j).cells))
  have HRF := Lib.hid (fun j => (show rowC PT (k + 1) j = flat 3 (k + 1) (fun i => (PT i j).cells) from rfl))
  clear hpt
  obtain ⟨BW, hBW⟩ : ∃ BW, BW = (w.alloc (.cells ⟨c.cells⟩ 24)).alloc (.cells ⟨p.cells⟩ 30) := ⟨_, rfl⟩
  have HBX := Lib.hid (show CPBox BW w.heap.size c p by rw [hBW]; exact CPBox.new w c p)
  have HB0 := Lib.hid (show Below w.heap.size w BW by rw [hBW]; exact (by repeat (first | exact Below.refl _ _ | refine Below.drew ?_ | refine Below.alloc ?_ (by first | exact Nat.le_refl _ | (simp; done) | (simp; omega) | omega) _ | refine Below.more ?_ (by first | exact Nat.le_refl _ | (simp; done) | (simp; omega) | omega) _ _ | refine Below.setCell ?_ (by first | exact Nat.le_refl _ | (simp; done) | (simp; omega) | omega) _ | assumption)))
  have hsz : w.heap.size + 1 < BW.heap.size := by rw [hBW]; simp
  have hsz0 : w.heap.size < BW.heap.size := by omega
  have HB1 := Lib.hid (show Below BW.heap.size BW (BW.alloc (.cells #[] 110)) from (by repeat (first | exact Below.refl _ _ | refine Below.drew ?_ | refine Below.alloc ?_ (by first | exact Nat.le_refl _ | (simp; done) | (simp; omega) | omega) _ | refine Below.more ?_ (by first | exact Nat.le_refl _ | (simp; done) | (simp; omega) | omega) _ _ | refine Below.setCell ?_ (by first | exact Nat.le_refl _ | (simp; done) | (simp; omega) | omega) _ | assumption)))
  have HB2 := Lib.hid (show (BW.alloc (.cells #[] 110)).ownsRow BW.heap.size 110 1 (.slice (some ⟨w.heap.size + 1 + 1, 0, none⟩) 0 0) 0 [] by
    have := World.ownsRow_made (e := 110) (size := 1) (base := BW.heap.size) BW #[] 0 (by simp) (by decide) (by simp)
    rwa [show BW.heap.size = w.heap.size + 1 + 1 by rw [hBW]; simp] at this ⊢)
  have HW := Lib.hid hBW
  clear hBW
  go_enter Try.func69, Try.ntmps69
  go_wp2
  go_loopw [8, 9] (fun out i wr => ∃ j : Nat, j ≤ k + 1 ∧ i = .int .i64 j ∧ Below BW.heap.size BW wr ∧ GridO wr BW.heap.size out (k + 1) j (rowC PT (k + 1)) ∧ ∀ i' j', i' ≤ k → j' < j → OK i' j' = true) (fun _ i _ => k + 1 - (intOf i).toNat)
  case atStart =>
    have hW := HW.out
    refine ⟨0, by omega, rfl, ?_, ⟨fun _ => 0, fun _ => 0, ?_, fun i hi => absurd hi (Nat.not_lt_zero _)⟩, fun _ _ _ h => absurd h (Nat.not_lt_zero _)⟩
    · have := HB1.out; rw [hW] at this ⊢; exact this
    · have := HB2.out; rw [hW] at this ⊢; exact this
  case round =>
    obtain ⟨j, hj, rfl, hbel, hgrid, hoks⟩ := hrel
    have HGR := Lib.hid hgrid
    have HOKS := Lib.hid hoks
    have HBEL := Lib.hid hbel
    have hsr := hbel.size
    clear hgrid hoks hbel
    by_cases hltj : j ≤ k
    · have hltj1 : (j : Int) ≤ (k : Int) := by omega
      obtain ⟨wj, hwj⟩ : ∃ wj, wj = wr := ⟨_, rfl⟩
      have HRZ := Lib.hid (show (wr.alloc (.cells #[] 27)).ownsRow wj.heap.size 27 3 (.slice (some ⟨wr.heap.size, 0, none⟩) 0 0) 0 [] by
        have := World.ownsRow_made (e := 27) (size := 3) (base := wr.heap.size) wr #[] 0 (by simp) (by decide) (by simp)
        rw [hwj]; exact this)
      have HBZ := Lib.hid (show Below wj.heap.size wj (wr.alloc (.cells #[] 27)) by rw [hwj]; exact (by repeat (first | exact Below.refl _ _ | refine Below.drew ?_ | refine Below.alloc ?_ (by first | exact Nat.le_refl _ | (simp; done) | (simp; omega) | omega) _ | refine Below.more ?_ (by first | exact Nat.le_refl _ | (simp; done) | (simp; omega) | omega) _ _ | refine Below.setCell ?_ (by first | exact Nat.le_refl _ | (simp; done) | (simp; omega) | omega) _ | assumption)))
      have HGJ := Lib.hid (show GridO wj BW.heap.size u8 (k + 1) j (rowC PT (k + 1)) by rw [hwj]; exact HGR.out)
      have HBJ := Lib.hid (show Below BW.heap.size BW wj by rw [hwj]; exact HBEL.out)
      have hsj : BW.heap.size ≤ wj.heap.size := by rw [hwj]; exact hsr
      clear HGR HBEL hwj
      go_wp2
      go_loopw [10, 11] (fun row i wr => ∃ i' : Nat, i' ≤ k + 1 ∧ i = .int .i64 i' ∧ Below wj.heap.size wj wr ∧ wr.ownsRow wj.heap.size 27 3 row i' (flat 3 i' (fun i => (PT i j).cells)) ∧ ∀ i, i < i' → OK i j = true) (fun _ i _ => k + 1 - (intOf i).toNat)
      case atStart => exact ⟨0, by omega, rfl, HBZ.out, HRZ.out, fun i h => absurd h (Nat.not_lt_zero _)⟩
      case round =>
        obtain ⟨i, hi', rfl, hbel, hown, hoki⟩ := hrel
        have hbB := HBJ.out.trans (hbel.mono hsj)
        have hbx := HBX.out.kept hbB
        have hl1 : w.heap.size + 1 < wr.heap.size := by have := hbB.size; omega
        have hl0 : w.heap.size < wr.heap.size := by omega
        obtain ⟨oa, oc, rfl⟩ := own_form_any hown
        have HOWN := Lib.hid hown
        have HOKI := Lib.hid hoki
        have HBEL := Lib.hid hbel
        have HBB := Lib.hid hbB
        clear hown hoki hbel hbB
        by_cases hlti : i ≤ k
        · have hlti1 : (i : Int) ≤ (k : Int) := by omega
          have c0 : wr.cell? ⟨w.heap.size, 0, none⟩ = some (.int .i64 c.W) := hbx.cc 0
          have c1 : wr.cell? ⟨w.heap.size, 1, none⟩ = some (.int .i64 c.H) := hbx.cc 1
          have c2 : wr.cell? ⟨w.heap.size, 2, none⟩ = some (.int .i64 c.Z) := hbx.cc 2
          have c3 : wr.cell? ⟨w.heap.size, 3, none⟩ = some (.int .i64 c.N) := hbx.cc 3
          have c4 : wr.cell? ⟨w.heap.size, 4, none⟩ = some (.bool c.D) := hbx.cc 4
          have c5 : wr.cell? ⟨w.heap.size, 5, none⟩ = some (.int .i64 c.L) := hbx.cc 5
          have c6 : wr.cell? ⟨w.heap.size, 6, none⟩ = some (.int .i64 c.F) := hbx.cc 6
          have d0 : wr.cell? ⟨w.heap.size + 1, 0, none⟩ = some (.int .i64 p.t0) := hbx.cp 0
          have d1 : wr.cell? ⟨w.heap.size + 1, 1, none⟩ = some (.int .i64 p.t1) := hbx.cp 1
          have d2 : wr.cell? ⟨w.heap.size + 1, 2, none⟩ = some (.int .i64 p.t2) := hbx.cp 2
          have d3 : wr.cell? ⟨w.heap.size + 1, 3, none⟩ = some (.int .i64 p.t3) := hbx.cp 3
          have d4 : wr.cell? ⟨w.heap.size + 1, 4, none⟩ = some (.int .i64 p.t4) := hbx.cp 4
          have d5 : wr.cell? ⟨w.heap.size + 1, 5, none⟩ = some (.int .i64 p.t5) := hbx.cp 5
          have d6 : wr.cell? ⟨w.heap.size + 1, 6, none⟩ = some (.int .i64 p.t6) := hbx.cp 6
          have d7 : wr.cell? ⟨w.heap.size + 1, 7, none⟩ = some (.int .i64 p.t7) := hbx.cp 7
          have d8 : wr.cell? ⟨w.heap.size + 1, 8, none⟩ = some (.int .i64 p.t8) := hbx.cp 8
          have d9 : wr.cell? ⟨w.heap.size + 1, 9, none⟩ = some (.int .i64 p.t9) := hbx.cp 9
          have d10 : wr.cell? ⟨w.heap.size + 1, 10, none⟩ = some (.int .i64 p.t10) := hbx.cp 10
          have d11 : wr.cell? ⟨w.heap.size + 1, 11, none⟩ = some (.int .i64 p.t11) := hbx.cp 11
          clear hbx
          obtain ⟨ex, ey, ez, HPt⟩ := HPT.out i j hlti hltj
          have HP := Lib.hid HPt
          have HNS := Lib.hid (HRC.out i j)
          have HNO := Lib.hid (show OK i j = false → ∃ i j, i ≤ k ∧ j ≤ k ∧ OK i j = false from fun h => ⟨i, j, hlti, hltj, h⟩)
          have HYES := Lib.hid (show OK i j = true → ∀ i', i' < i + 1 → OK i' j = true from fun h i' h' => by
            by_cases he : i' = i
            · rw [he]; exact h
            · exact HOKI.out i' (by omega))
          clear HPt
          generalize PT i j = P0 at *
          generalize OK i j = ok at *
          go_wp2
          refine region_box0 10 27 [.int .i64 0, .int .i64 0, .int .i64 0] [.int .i64 P0.f0, .int .i64 P0.f1, .int .i64 P0.f2] (by kernel_rfl) (by kernel_rfl) ?_
          simp only [List.take_succ_cons, List.take_zero, List.drop_succ_cons, List.drop_zero]
          repeat (refine headS_step (fun K hK => ?_); go_simp; refine hK _ ?_; clear hK K)
          (refine headS_step (fun K hK => ?_); go_simp; refine ⟨_, fun zt => calls_stays (HP.out.ev _), hK _ ?_⟩; clear hK K)
          repeat (refine headS_step (fun K hK => ?_); go_simp; refine hK _ ?_; clear hK K)
          (refine headS_step (fun K hK => ?_); go_simp; refine ⟨_, fun zt => calls_stays (HP.out.pr _), hK _ ?_⟩; clear hK K)
          repeat (refine headS_step (fun K hK => ?_); go_simp; refine hK _ ?_; clear hK K)
          refine headS_nil ?_
          refine tail_box (by go_simp) (fun X d => by go_simp) (fun b => by go_simp) (fun b w hb => by go_simp) (fun b => ?_)
          refine tail_quiet (v := .bool ok) (by go_simp) (fun w => by go_simp) ?_
          refine tail_done (fun X1 X2 d1 hb => ?_)
          subst hb
          simp only [Act.put, List.setIfInBounds_toArray, List.set_cons_zero, List.set_cons_succ]
          have hWx := Lib.hid (show Below wr.heap.size wr (more ((more wr X1 0).alloc (.cells ⟨[.int .i64 P0.f0, .int .i64 P0.f1, .int .i64 P0.f2]⟩ 27)) X2 d1) from (by repeat (first | exact Below.refl _ _ | refine Below.drew ?_ | refine Below.alloc ?_ (by first | exact Nat.le_refl _ | (simp; done) | (simp; omega) | omega) _ | refine Below.more ?_ (by first | exact Nat.le_refl _ | (simp; done) | (simp; omega) | omega) _ _ | refine Below.setCell ?_ (by first | exact Nat.le_refl _ | (simp; done) | (simp; omega) | omega) _ | assumption)))
          have hgx := Lib.hid (show (more ((more wr X1 0).alloc (.cells ⟨[.int .i64 P0.f0, .int .i64 P0.f1, .int .i64 P0.f2]⟩ 27)) X2 d1).heap[wr.heap.size + X1.size]? = some (.cells ⟨[.int .i64 P0.f0, .int .i64 P0.f1, .int .i64 P0.f2]⟩ 27 (0, 0)) by rw [heap_more _ (by simp)]; exact heap_at_new (by simp))
          generalize more ((more wr X1 0).alloc (.cells ⟨[.int .i64 P0.f0, .int .i64 P0.f1, .int .i64 P0.f2]⟩ 27)) X2 d1 = Wx at *
          generalize wr.heap.size + X1.size = B at *
          have HOX := Lib.hid (own_kept HOWN.out hWx.out)
          have HBX2 := Lib.hid (HBEL.out.trans (hWx.out.mono HBEL.out.size))
          have g0 : Wx.cell? ⟨B, 0, none⟩ = some (.int .i64 P0.f0) := by rw [cell_of_row Wx _ 0 _ _ (0, 0) hgx.out]; rfl
          have g1 : Wx.cell? ⟨B, 1, none⟩ = some (.int .i64 P0.f1) := by rw [cell_of_row Wx _ 1 _ _ (0, 0) hgx.out]; rfl
          have g2 : Wx.cell? ⟨B, 2, none⟩ = some (.int .i64 P0.f2) := by rw [cell_of_row Wx _ 2 _ _ (0, 0) hgx.out]; rfl
          have hBl : B < Wx.heap.size := (Array.getElem?_eq_some_iff.1 hgx.out).1
          have hjW : wj.heap.size ≤ Wx.heap.size := HBX2.out.size
          have hwB : w.heap.size ≤ BW.heap.size := by omega
          clear c0 c1 c2 c3 c4 c5 c6 d0 d1 d2 d3 d4 d5 d6 d7 d8 d9 d10 d11 hl1 hl0
          cases ok
          · go_wp2
            exact bodyPost_ret (v := .tuple #[.slice none 0 0, .bool false]) (by simp [results, Try.results69, go_sem]) rfl ⟨HB0.out.trans ((HBJ.out.trans (HBX2.out.mono hsj)).mono hwB), .inl ⟨rfl, HNO.out (by first | rfl | trivial)⟩⟩
          · go_wp2_with (at_builtin; go_loud (refine wpList_append_vec rfl _ _ rfl wj.heap.size _ i _ rfl (own_kept HOX.out (by repeat (first | exact Below.refl _ _ | refine Below.drew ?_ | refine Below.alloc ?_ (by first | exact Nat.le_refl _ | (simp; done) | (simp; omega) | omega) _ | refine Below.more ?_ (by first | exact Nat.le_refl _ | (simp; done) | (simp; omega) | omega) _ _ | refine Below.setCell ?_ (by first | exact Nat.le_refl _ | (simp; done) | (simp; omega) | omega) _ | assumption))) _ P0 rfl (heap_at_new rfl) (by omega) ?b4 ?_))
            case b4 => first | omega | (simp; omega)
            intro v' w' hp' hb'
            have HP' := Lib.hid hp'
            have HB' := Lib.hid (Below.trans (Below.trans HBX2.out (Below.mono (show Below Wx.heap.size Wx _ from (by repeat (first | exact Below.refl _ _ | refine Below.drew ?_ | refine Below.alloc ?_ (by first | exact Nat.le_refl _ | (simp; done) | (simp; omega) | omega) _ | refine Below.more ?_ (by first | exact Nat.le_refl _ | (simp; done) | (simp; omega) | omega) _ _ | refine Below.setCell ?_ (by first | exact Nat.le_refl _ | (simp; done) | (simp; omega) | omega) _ | assumption))) hjW)) hb')
            clear hp' hb'
            go_wp2
            go_roundw
            case rel => exact ⟨i + 1, by omega, by go_num, HB'.out, by rw [HNS.out]; exact HP'.out, HYES.out (by first | rfl | trivial)⟩
            case measure => simp [intOf]; omega
        · obtain rfl : i = k + 1 := by omega
          have hnl : ¬ ((k + 1 : Nat) : Int) ≤ (k : Int) := by omega
          have hrow := HOWN.out
          rw [← HRF.out j] at hrow
          obtain ⟨g, cap, e, hRB⟩ := RowB.of hrow (by omega) (HRL.out j) hsj
          simp only [Value.slice.injEq] at e
          obtain ⟨rfl, _, rfl⟩ := e
          have HRB := Lib.hid hRB
          have HGX := Lib.hid (HGJ.out.below HBEL.out)
          obtain ⟨B0, K0, hown0, _⟩ := HGX.out
          obtain ⟨ga, gc, rfl⟩ := own_form_any hown0
          clear hrow hRB hown0
          have HGA := Lib.hid (show GridO (wr.alloc (.cells #[.slice (some ⟨g, 0, none⟩) (k + 1) oc] 110)) BW.heap.size (.slice ga j gc) (k + 1) j (rowC PT (k + 1)) from HGX.out.below (by repeat (first | exact Below.refl _ _ | refine Below.drew ?_ | refine Below.alloc ?_ (by first | exact Nat.le_refl _ | (simp; done) | (simp; omega) | omega) _ | refine Below.more ?_ (by first | exact Nat.le_refl _ | (simp; done) | (simp; omega) | omega) _ _ | refine Below.setCell ?_ (by first | exact Nat.le_refl _ | (simp; done) | (simp; omega) | omega) _ | assumption)))
          have HRA := Lib.hid (show RowB (wr.alloc (.cells #[.slice (some ⟨g, 0, none⟩) (k + 1) oc] 110)) BW.heap.size g (rowC PT (k + 1) j) from HRB.out.below (by repeat (first | exact Below.refl _ _ | refine Below.drew ?_ | refine Below.alloc ?_ (by first | exact Nat.le_refl _ | (simp; done) | (simp; omega) | omega) _ | refine Below.more ?_ (by first | exact Nat.le_refl _ | (simp; done) | (simp; omega) | omega) _ _ | refine Below.setCell ?_ (by first | exact Nat.le_refl _ | (simp; done) | (simp; omega) | omega) _ | assumption)))
          have hbase : BW.heap.size ≤ (wr.alloc (.cells #[.slice (some ⟨g, 0, none⟩) (k + 1) oc] 110)).heap.size := by have := HBB.out.size; simp; omega
          have hj1000 : j ≤ 1000 := by omega
          go_wp2_with (at_builtin; go_loud (refine wpList_append_head rfl _ _ rfl BW.heap.size _ (k + 1) j (rowC PT (k + 1)) rfl HGA.out wr.heap.size g oc rfl (heap_alloc_new _ _) HRA.out hj1000 hbase ?_))
          intro v' w' hp' hb'
          have HP' := Lib.hid hp'
          have HB' := Lib.hid (Below.trans (Below.trans HBB.out (Below.mono (show Below wr.heap.size wr _ from (by repeat (first | exact Below.refl _ _ | refine Below.drew ?_ | refine Below.alloc ?_ (by first | exact Nat.le_refl _ | (simp; done) | (simp; omega) | omega) _ | refine Below.more ?_ (by first | exact Nat.le_refl _ | (simp; done) | (simp; omega) | omega) _ _ | refine Below.setCell ?_ (by first | exact Nat.le_refl _ | (simp; done) | (simp; omega) | omega) _ | assumption))) HBB.out.size)) hb')
          have HOKA := Lib.hid (show ∀ i' j', i' ≤ k → j' < j + 1 → OK i' j' = true from fun i' j' h1 h2 => by
            by_cases he : j' = j
            · rw [he]; exact HOKI.out i' (by omega)
            · exact HOKS.out i' j' h1 (by omega))
          clear hp' hb'
          go_wp2
          go_roundw
          case rel => exact ⟨j + 1, by omega, by go_num, HB'.out, HP'.out, HOKA.out⟩
          case measure => simp [intOf]; omega
    · obtain rfl : j = k + 1 := by omega
      have hnl : ¬ ((k + 1 : Nat) : Int) ≤ (k : Int) := by omega
      have hle : w.heap.size ≤ BW.heap.size := HB0.out.size
      have HQ := Lib.hid (show GridQ w k PT OK (.returned (.tuple #[u8, .bool true])) wr from ⟨HB0.out.trans (HBEL.out.mono hle), .inr ⟨_, rfl, by
        obtain ⟨B, K, g1, g2⟩ := HGR.out
        exact ⟨B, K, ownsRow_base2 g1 hle, fun i hi => ⟨Nat.le_trans hle (g2 i hi).1, (g2 i hi).2⟩⟩, fun i j h1 h2 => HOKS.out i j h1 (by omega)⟩⟩)
      obtain ⟨B0, K0, hown0, _⟩ := HGR.out
      obtain ⟨ga, gc, rfl⟩ := own_form_any hown0
      clear hown0
      go_wp2
      exact bodyPost_ret (v := .tuple #[.slice ga (k + 1) gc, .bool true]) (by simp [results, Try.results69, go_sem]) rfl HQ.out
end Go.Proofs.Ytkdkdejgajcneaa
