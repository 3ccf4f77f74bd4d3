/- How often each node is used: the contract of l13Uses. -/
import Derived.Test.YtdkjiafdfenbkaaDoorProgram
import Derived.Test.YtdkjiafdfenbkaaDoorRoots
import Derived.Test.YtdkjiafdfenbkaaDoorNodeOk
namespace Go.Proofs.YtdkjiafdfenbkaaDoor
open Go.RowKit
def flatL (l : List NodeD) : List Int := l.flatMap (·.f3)
theorem flatL_take {l : List NodeD} {k : Nat} (h : k < l.length) : flatL (l.take (k + 1)) = flatL (l.take k) ++ (l.getD k default).f3 := by
  rw [List.take_succ_eq_append_getElem h, List.getD_eq_getElem?_getD, List.getElem?_eq_getElem h]
  simp only [flatL, List.flatMap_append, List.flatMap_cons, List.flatMap_nil, List.append_nil, Option.getD_some]
theorem flatL_len {l : List NodeD} {B : Nat} : ∀ k, k ≤ l.length → (∀ i, i < l.length → (l.getD i default).f3.length ≤ B) → (flatL (l.take k)).length ≤ k * B
  | 0, _, _ => by simp [flatL]
  | k + 1, hk, h => by
    rw [flatL_take (by omega), List.length_append, Nat.add_mul, Nat.one_mul]
    have := flatL_len k (by omega) h
    have := h k (by omega)
    omega
/-- How often each of 0 .. n-1 stands in L. -/
def counts (n : Nat) (L : List Int) : List Value := (List.range n).map fun k : Nat => .int .i64 (L.count (k : Int) : Nat)
@[simp] theorem counts_len (n : Nat) (L : List Int) : (counts n L).length = n := by simp [counts]
theorem counts_get {n k : Nat} {L : List Int} (h : k < n) : (counts n L)[k]? = some (.int .i64 (L.count (k : Int) : Nat)) := by
  simp [counts, h]
theorem counts_set {n k : Nat} {L : List Int} (h : k < n) : (counts n L).set k (.int .i64 (((L.count (k : Int) : Nat) : Int) + 1)) = counts n (L ++ [(k : Int)]) := by
  apply List.ext_getElem?
  intro i
  rw [List.getElem?_set, counts_len]
  by_cases hi : i < n
  · rw [counts_get hi, counts_get hi]
    by_cases hki : k = i
    · subst hki; simp [h, List.count_append]
    · rw [if_neg hki, List.count_append, List.count_eq_zero (a := (i : Int)) (l := [(k : Int)]) |>.2 (by simp; omega)]
      simp
  · have e1 : (counts n L)[i]? = none := List.getElem?_eq_none (by simp; omega)
    have e2 : (counts n (L ++ [(k : Int)]))[i]? = none := List.getElem?_eq_none (by simp; omega)
    rw [e1, e2]
    by_cases hki : k = i
    · omega
    · rw [if_neg hki]
theorem counts_nil (n : Nat) : counts n [] = List.replicate n (.int .i64 0) := by
  apply List.ext_getElem?
  intro i
  by_cases hi : i < n
  · rw [counts_get hi, List.getElem?_replicate, if_pos hi]; rfl
  · rw [List.getElem?_eq_none (by simp; omega), List.getElem?_eq_none (by simp; omega)]
section
variable {w : World} {U : Nat} {arr : List Value} {e : TypeId}
theorem heap_set_here (h : w.heap[U]? = some (.cells ⟨arr⟩ e (0, 0))) (j : Nat) (v : Value) : (w.setCell ⟨U, j, none⟩ v).heap[U]? = some (.cells ⟨arr.set j v⟩ e (0, 0)) := by
  have hU := (Array.getElem?_eq_some_iff.1 h).1
  rw [← putB_self h, setCell_putB j v hU]
  exact heap_putB hU
theorem count_cell {n q : Nat} {L : List Int} (h : w.heap[U]? = some (.cells ⟨counts n L⟩ e (0, 0))) (hq : q < n) : w.cell? ⟨U, q, none⟩ = some (.int .i64 (L.count (q : Int) : Nat)) := by
  rw [cell_of_row _ _ q ⟨_⟩ _ (0, 0) h]; simpa using counts_get hq
theorem size_set (j : Nat) (v : Value) : (w.setCell ⟨U, j, none⟩ v).heap.size = w.heap.size := by simp [World.setCell]
theorem below_set_here {lo : Nat} {W : World} (b : Below lo W w) (h : w.heap[U]? = some (.cells ⟨arr⟩ e (0, 0))) (hlo : lo ≤ U) (j : Nat) (v : Value) : Below lo W (w.setCell ⟨U, j, none⟩ v) := by
  have hU := (Array.getElem?_eq_some_iff.1 h).1
  refine b.trans ?_
  rw [← putB_self h, setCell_putB j v hU, putB_self h]
  exact Below.putB hlo
theorem heap_set_other (j : Nat) (v : Value) (k : Nat) (hk : k ≠ U) : (w.setCell ⟨U, j, none⟩ v).heap[k]? = w.heap[k]? := by
  simp only [World.setCell]
  rw [Array.getElem?_modify, if_neg (Ne.symm hk)]
end
theorem make_counts (n : Nat) (hn : n ≤ 1048576) (w : World) : (Instr.makeSlice 68 (.int .i64 (n : Int)) (.int .i64 (n : Int))).run Tryd.prog w = .ok (.slice (some ⟨w.heap.size, 0, none⟩) n n) (w.alloc (.cells ⟨counts n []⟩ 3)) := by
  obtain ⟨i0, hi, hz0, hz1, hz2⟩ := info_parts info_Int
  have h := run_make w 68 3 i0 _ Tryd.underlying68 hi hz0 .i64 .i64 (n : Int) (n : Int) (by omega) (by omega) (by rw [hz2]; omega) (by omega)
  rw [h]
  simp only [Int.toNat_natCast, hz1, counts_nil, Nat.mul_one]
  have e : madeCells (Value.int .i64 0).cells n = ⟨List.replicate n (.int .i64 0)⟩ := by
    apply Array.ext_getElem?
    intro i
    by_cases hi : i < n
    · simp [madeCells, hi, Nat.mod_one, Value.cells]
    · rw [Array.getElem?_eq_none (by rw [size_madeCells]; omega), Array.getElem?_eq_none (by simp; omega)]
  rw [e]
/-- What the nodes of a program, and the assignments, use: all in bounds. -/
def argsFit (p : ProgD) : Prop := (∀ i, i < p.nN → argsIn (p.nodes.getD i default).f3 0 ((p.nN : Int) - 1)) ∧ ∀ i, i < p.nA → 0 ≤ (p.asg.getD i default).f1 ∧ (p.asg.getD i default).f1 ≤ (p.nN : Int) - 1
def useL (p : ProgD) : List Int := flatL p.nodes ++ rootsL p.asg
theorem take_snoc {l : List Int} {k : Nat} (h : k < l.length) : l.take (k + 1) = l.take k ++ [l.getD k 0] := by
  rw [List.take_succ_eq_append_getElem h, List.getD_eq_getElem?_getD, List.getElem?_eq_getElem h]; rfl
set_option maxRecDepth 100000 in
set_option maxHeartbeats 4000000 in
theorem l13Uses_c (v : Value) (p : ProgD) (w : World) (hr : ProgramR w v p) (hs : ProgramSz 1048576 p) (hf : argsFit p) :
    Calls Tryd.prog 104 #[v] w fun e w' => ∃ U, e = .returned (.slice (some ⟨U, 0, none⟩) p.nN p.nN) ∧ w.heap.size ≤ U ∧ w'.heap[U]? = some (.cells ⟨counts p.nN (useL p)⟩ 3 (0, 0)) ∧ Below w.heap.size w w' := by
  obtain ⟨a, c, a', c', rfl, ⟨A, K, h1, h2⟩, h3⟩ := hr
  obtain ⟨hs1, hs2, hs3, hs4⟩ := hs
  obtain ⟨hf1, hf2⟩ := hf
  have HU := Lib.hid (show useL p = flatL p.nodes ++ rootsL p.asg from rfl)
  generalize useL p = ul at *
  have HN := Lib.hid p.hN
  have HA := Lib.hid p.hA
  generalize p.nN = n at *
  generalize p.nA = m at *
  generalize p.nodes = l at *
  generalize p.asg = s at *
  have HR := Lib.hid h1
  have HQ := Lib.hid h2
  have HS := Lib.hid h3
  have HZ := Lib.hid hs3
  have HF1 := Lib.hid hf1
  have HF2 := Lib.hid hf2
  have HFL := Lib.hid (fun k hk => flatL_len (l := l) (B := 1048576) k hk (fun i hi => (hs3 i (by rw [HN.out] at hi; exact hi)).2))
  clear h1 h2 h3 hs3 hs4 hf1 hf2
  have hmk := fun w => make_counts n hs1 w
  go_enter Tryd.func104, Tryd.ntmps104
  go_wp2
  go_loopw [17] (fun i wr => ∃ (k : Nat), k ≤ n ∧ i = .int .i64 k ∧ Below w.heap.size w wr ∧ wr.heap[w.heap.size + 1]? = some (.cells ⟨counts n (flatL (l.take k))⟩ 3 (0, 0)) ∧ wr.cell? ⟨w.heap.size, 1, none⟩ = some (.slice a' m c')) (fun i _ => n - (intOf i).toNat)
  case atStart => exact ⟨0, by omega, rfl, (by repeat (first | exact Below.refl _ _ | refine Below.drew ?_ | refine Below.alloc ?_ (by first | exact Nat.le_refl _ | (simp; done) | (simp; omega) | omega) _ | refine Below.more ?_ (by first | exact Nat.le_refl _ | (simp; done) | (simp; omega) | omega) _ _ | refine Below.setCell ?_ (by first | exact Nat.le_refl _ | (simp; done) | (simp; omega) | omega) _ | assumption)), by rw [show flatL (l.take 0) = [] from by simp [flatL]]; exact heap_at_new (by simp), by simp [go_sem]⟩
  case round =>
    obtain ⟨k, hk, rfl, hbel, hu, q1⟩ := hrel
    have HBEL := Lib.hid hbel
    have HUB := Lib.hid hu
    have hbs := hbel.size
    have y1 : w.heap.size + 1 < wr.heap.size := (Array.getElem?_eq_some_iff.1 hu).1
    clear hbel hu
    by_cases hlt : k < n
    · have hk1 : (k : Int) < (n : Int) := by omega
      obtain ⟨b, o, e, hb, hc⟩ := HR.out.below HBEL.out (by omega)
      subst e
      have c0 : wr.cell? ⟨b, o + k * 4, none⟩ = some (.int .i64 (l.getD k default).f0) := hc k hlt 0 (by omega)
      have c1 : wr.cell? ⟨b, o + k * 4 + 1, none⟩ = some (.string (l.getD k default).f1) := hc k hlt 1 (by omega)
      have c2 : wr.cell? ⟨b, o + k * 4 + 2, none⟩ = some (.int .i64 (l.getD k default).f2) := hc k hlt 2 (by omega)
      have c3 : wr.cell? ⟨b, o + k * 4 + 3, none⟩ = some (.slice (A k) (l.getD k default).f3.length (K k)) := hc k hlt 3 (by omega)
      clear hc
      have HSL := Lib.hid (show Sl w (A k) 1 (l.getD k default).f3.length (intAt (l.getD k default).f3) from HQ.out k hlt)
      have HT := Lib.hid (flatL_take (l := l) (k := k) (by rw [HN.out]; exact hlt))
      have HFT := Lib.hid (HF1.out k hlt)
      have hfl := HFL.out k (by rw [HN.out]; omega)
      have hsn : (l.getD k default).f3.length ≤ 1048576 := (HZ.out k hlt).2
      generalize A k = ak at *
      generalize K k = kk at *
      generalize l.getD k default = x at *
      generalize flatL (l.take k) = pre at *
      obtain ⟨x0, x1, x2, x3⟩ := x
      dsimp only at c0 c1 c2 c3 hsn HSL HT HFT
      generalize hm3 : x3.length = m3 at *
      have HM3 := Lib.hid hm3
      clear hm3
      go_wp2
      go_loopw [24] (fun i wq => ∃ (j : Nat), j ≤ m3 ∧ i = .int .i64 j ∧ Below w.heap.size w wq ∧ wq.heap[w.heap.size + 1]? = some (.cells ⟨counts n (pre ++ x3.take j)⟩ 3 (0, 0)) ∧ wq.cell? ⟨w.heap.size, 1, none⟩ = some (.slice a' m c')) (fun i _ => m3 - (intOf i).toNat)
      case atStart =>
        refine ⟨0, by omega, rfl, Below.alloc HBEL.out (by first | exact Nat.le_refl _ | (simp; done) | (simp; omega) | omega) _, ?_, cell_below (Below.alloc (Below.refl _ _) (Nat.le_refl _) _) q1⟩
        rw [List.take_zero, List.append_nil]
        exact (heap_alloc_old _ _ y1).trans HUB.out
      case round =>
        clear c0 c1 c2 c3
        obtain ⟨j, hj, rfl, hbel2, hu2, q2⟩ := hrel
        have HB2 := Lib.hid hbel2
        have HU2 := Lib.hid hu2
        have y2 : w.heap.size + 1 < wr.heap.size := (Array.getElem?_eq_some_iff.1 hu2).1
        clear hbel2 hu2
        by_cases hjl : j < m3
        · have hj1 : (j : Int) < (m3 : Int) := by omega
          obtain ⟨b2, o2, e2, hb2, hc2⟩ := HSL.out.below HB2.out (by omega)
          subst e2
          have d0 : wr.cell? ⟨b2, o2 + j, none⟩ = some (.int .i64 (x3.getD j 0)) := by
            have := hc2 j hjl 0 (by omega)
            rw [Nat.mul_one, Nat.add_zero] at this
            rw [this]; simp [intAt]
          clear hc2
          have HTK := Lib.hid (take_snoc (l := x3) (k := j) (by rw [HM3.out]; exact hjl))
          have hbd := HFT.out j (by rw [HM3.out]; exact hjl)
          have hlen : (pre ++ x3.take j).length ≤ 2199023255552 := by
            rw [List.length_append, List.length_take]
            have : k * 1048576 ≤ 1048576 * 1048576 := Nat.mul_le_mul_right _ (by omega)
            omega
          generalize x3.getD j 0 = x at *
          obtain ⟨q, rfl⟩ := Int.eq_ofNat_of_zero_le hbd.1
          have hq : q < n := by omega
          have hq1 : (q : Int) < (n : Int) := by omega
          have k0 : wr.cell? ⟨w.heap.size + 1, q, none⟩ = some (.int .i64 ((pre ++ x3.take j).count (q : Int) : Nat)) := by
            exact count_cell HU2.out hq
          have k1 : wr.frozen? ⟨w.heap.size + 1, q, none⟩ = false := frozen_of_row _ _ q ⟨_⟩ _ HU2.out
          have hcl : (pre ++ x3.take j).count (q : Int) ≤ 2199023255552 := Nat.le_trans List.count_le_length hlen
          have HST := Lib.hid (counts_set (n := n) (k := q) (L := pre ++ x3.take j) hq)
          generalize (pre ++ x3.take j).count (q : Int) = cn at *
          have hwr : IntKind.i64.wrap ((cn : Int) + 1) = (cn : Int) + 1 := IntWalk.i64_in _ (by omega)
          go_wp2
          refine ⟨⟨j + 1, by omega, rfl, below_set_here HB2.out HU2.out (Nat.le_succ _) _ _, ?_, ?_⟩, by simp only [intOf]; omega⟩
          · rw [HTK.out, ← List.append_assoc, ← HST.out]
            exact heap_set_here HU2.out _ _
          · exact (World.cell?_of_block (heap_set_other (U := w.heap.size + 1) _ _ w.heap.size (by omega))).trans q2
        · have hj1 : ¬ (j : Int) < (m3 : Int) := by omega
          have hje : x3.take j = x3 := List.take_of_length_le (by rw [HM3.out]; omega)
          have HJE := Lib.hid hje
          clear hje
          go_wp2
          refine ⟨⟨k + 1, by omega, rfl, HB2.out, ?_, q2⟩, by simp only [intOf]; omega⟩
          rw [HT.out, ← HJE.out]
          have := HU2.out
          rw [HJE.out] at this ⊢
          exact this
    · have hk1 : ¬ (k : Int) < (n : Int) := by omega
      have hke : l.take k = l := List.take_of_length_le (by rw [HN.out]; omega)
      rw [hke] at HUB
      have hfl : (flatL l).length ≤ 2199023255552 := by
        have := HFL.out k (by rw [HN.out]; omega)
        rw [hke] at this
        have : k * 1048576 ≤ 1048576 * 1048576 := Nat.mul_le_mul_right _ (by omega)
        omega
      clear hke
      generalize flatL l = pre at *
      go_wp2
      go_loopw [39] (fun i wq => ∃ (j : Nat), j ≤ m ∧ i = .int .i64 j ∧ Below w.heap.size w wq ∧ wq.heap[w.heap.size + 1]? = some (.cells ⟨counts n (pre ++ rootsL (s.take j))⟩ 3 (0, 0))) (fun i _ => m - (intOf i).toNat)
      case atStart =>
        refine ⟨0, by omega, rfl, HBEL.out, ?_⟩
        rw [List.take_zero, show rootsL [] = [] from rfl, List.append_nil]
        exact HUB.out
      case round =>
        obtain ⟨j, hj, rfl, hbel2, hu2⟩ := hrel
        have HB2 := Lib.hid hbel2
        have HU2 := Lib.hid hu2
        have y2 : w.heap.size + 1 < wr.heap.size := (Array.getElem?_eq_some_iff.1 hu2).1
        clear hbel2 hu2
        by_cases hjl : j < m
        · have hj1 : (j : Int) < (m : Int) := by omega
          obtain ⟨b2, o2, e2, hb2, hc2⟩ := HS.out.below HB2.out (by omega)
          subst e2
          have d0 : wr.cell? ⟨b2, o2 + j * 2, none⟩ = some (.string (s.getD j default).f0) := hc2 j hjl 0 (by omega)
          have d1 : wr.cell? ⟨b2, o2 + j * 2 + 1, none⟩ = some (.int .i64 (s.getD j default).f1) := hc2 j hjl 1 (by omega)
          clear hc2
          have HTK := Lib.hid (rootsL_take (l := s) (k := j) (by rw [HA.out]; exact hjl))
          have hbd := HF2.out j hjl
          have hlen : (pre ++ rootsL (s.take j)).length ≤ 4398046511104 := by
            rw [List.length_append, rootsL_len, List.length_take]
            omega
          generalize s.getD j default = x at *
          obtain ⟨x0, x1⟩ := x
          dsimp only at d0 d1 HTK hbd
          obtain ⟨q, rfl⟩ := Int.eq_ofNat_of_zero_le hbd.1
          have hq : q < n := by omega
          have hq1 : (q : Int) < (n : Int) := by omega
          have k0 : wr.cell? ⟨w.heap.size + 1, q, none⟩ = some (.int .i64 ((pre ++ rootsL (s.take j)).count (q : Int) : Nat)) := by
            exact count_cell HU2.out hq
          have k1 : wr.frozen? ⟨w.heap.size + 1, q, none⟩ = false := frozen_of_row _ _ q ⟨_⟩ _ HU2.out
          have hcl : (pre ++ rootsL (s.take j)).count (q : Int) ≤ 4398046511104 := Nat.le_trans List.count_le_length hlen
          have HST := Lib.hid (counts_set (n := n) (k := q) (L := pre ++ rootsL (s.take j)) hq)
          generalize (pre ++ rootsL (s.take j)).count (q : Int) = cn at *
          have hwr : IntKind.i64.wrap ((cn : Int) + 1) = (cn : Int) + 1 := IntWalk.i64_in _ (by omega)
          go_wp2
          refine ⟨⟨j + 1, by omega, rfl, Below.alloc (below_set_here HB2.out HU2.out (Nat.le_succ _) _ _) (by rw [size_set]; omega) _, ?_⟩, by simp only [intOf]; omega⟩
          rw [HTK.out, ← List.append_assoc, ← HST.out]
          exact (heap_alloc_old _ _ (by rw [size_set]; omega)).trans (heap_set_here HU2.out _ _)
        · have hj1 : ¬ (j : Int) < (m : Int) := by omega
          have hje : s.take j = s := List.take_of_length_le (by rw [HA.out]; omega)
          have HJE := Lib.hid hje
          clear hje
          go_wp2
          go_ret
          refine ⟨_, rfl, by omega, ?_, HB2.out⟩
          have := HU2.out
          rw [HJE.out] at this
          rw [HU.out]
          exact this
end Go.Proofs.YtdkjiafdfenbkaaDoor
