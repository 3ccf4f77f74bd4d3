/- Contracts of l14Assigned and l14Names. -/
import Derived.BigQuiet
import Derived.Test.YtgennnoplmhckaaExpr
import Derived.Test.YtgennnoplmhckaaOwnerOf
namespace Go.Proofs.Ytgennnoplmhckaa
open Go Go.RowKit
open Classical in
/-- The last assignment to x before place k and before b, or -1. -/
noncomputable def lastTo (s : List AssignmentD) (x : ByteArray) (b : Int) : Nat → Int
  | 0 => -1
  | k + 1 => if (k : Int) < b ∧ nameOf s k = x then (k : Int) else lastTo s x b k
theorem lastTo_no {s : List AssignmentD} {x : ByteArray} {b : Int} {k : Nat} (h : ¬ ((k : Int) < b ∧ nameOf s k = x)) : lastTo s x b (k + 1) = lastTo s x b k := by rw [lastTo, if_neg h]
theorem lastTo_yes {s : List AssignmentD} {x : ByteArray} {b : Int} {k : Nat} (h : (k : Int) < b ∧ nameOf s k = x) : lastTo s x b (k + 1) = k := by rw [lastTo, if_pos h]
theorem lastTo_bd (s : List AssignmentD) (x : ByteArray) (b : Int) : ∀ k : Nat, -1 ≤ lastTo s x b k ∧ lastTo s x b k < k
  | 0 => by simp [lastTo]
  | k + 1 => by
    have := lastTo_bd s x b k
    rw [lastTo]
    split <;> omega
theorem lastTo_has (s : List AssignmentD) (x : ByteArray) (b : Int) : ∀ k : Nat, 0 ≤ lastTo s x b k ↔ hasB4 s k x b
  | 0 => by simp [lastTo, hasB4]
  | k + 1 => by
    by_cases h : (k : Int) < b ∧ nameOf s k = x
    · rw [lastTo_yes h]
      exact ⟨fun _ => ⟨k, by omega, h⟩, fun _ => by omega⟩
    · rw [lastTo_no h, lastTo_has s x b k]
      constructor
      · rintro ⟨j, hj, r⟩; exact ⟨j, by omega, r⟩
      · rintro ⟨j, hj, r⟩
        refine ⟨j, ?_, r⟩
        rcases Nat.lt_or_ge j k with h1 | h1
        · exact h1
        · obtain rfl : j = k := by omega
          exact absurd r h
theorem bytes_ext2 {a b : ByteArray} (h : a.toList = b.toList) : a = b := by
  rw [ByteArray.toList_eq, ByteArray.toList_eq] at h
  obtain ⟨⟨x⟩⟩ := a
  obtain ⟨⟨y⟩⟩ := b
  simpa using h
set_option maxRecDepth 100000 in
set_option maxHeartbeats 2000000 in
theorem l14Assigned_c (v : Value) (p : ProgD) (x : ByteArray) (bf : Int) (w : World) (hr : ProgramR w v p) (hs : ProgramSz 1048576 p) :
    Calls Try.prog 73 #[v, .string x, .int .i64 bf] w fun e w' => e = .returned (.int .i64 (lastTo p.asg x bf p.nA)) ∧ Below w.heap.size w w' := by
  obtain ⟨a, c, a', c', rfl, _, h3⟩ := hr
  obtain ⟨hs1, hs2, _, _⟩ := hs
  generalize p.nN = n at *
  generalize p.nA = m at *
  generalize p.asg = s at *
  have HS := Lib.hid h3
  clear h3
  go_enter Try.func73, Try.ntmps73
  go_wp2
  go_loopw [7, 13] (fun at_ i wr => ∃ (k : Nat), k ≤ m ∧ i = .int .i64 k ∧ at_ = .int .i64 (lastTo s x bf k) ∧ Below w.heap.size w wr) (fun _ i _ => m - (intOf i).toNat)
  case atStart => exact ⟨0, by omega, rfl, rfl, (by repeat (first | exact Below.refl _ _ | refine Below.drew ?_ | refine Below.alloc ?_ (by first | exact Nat.le_refl _ | (simp; done) | (simp; omega) | omega) _ | refine Below.more ?_ (by first | exact Nat.le_refl _ | (simp; done) | (simp; omega) | omega) _ _ | refine Below.setCell ?_ (by first | exact Nat.le_refl _ | (simp; done) | (simp; omega) | omega) _ | assumption))⟩
  case round =>
    obtain ⟨k, hk, rfl, rfl, hbel⟩ := hrel
    have HBEL := Lib.hid hbel
    have hbs := hbel.size
    clear hbel
    by_cases hlt : k < m
    · have hk1 : (k : Int) < (m : Int) := by omega
      obtain ⟨b, o, e, hb, hc⟩ := HS.out.below HBEL.out (by omega)
      subst e
      have c0 : wr.cell? ⟨b, o + k * 2, none⟩ = some (.string (nameOf s k)) := hc k hlt 0 (by omega)
      have c1 : wr.cell? ⟨b, o + k * 2 + 1, none⟩ = some (.int .i64 (s.getD k default).f1) := hc k hlt 1 (by omega)
      clear hc
      generalize (s.getD k default).f1 = r1 at *
      have HNO := Lib.hid (fun h => lastTo_no (s := s) (x := x) (b := bf) (k := k) h)
      have HYES := Lib.hid (fun h => lastTo_yes (s := s) (x := x) (b := bf) (k := k) h)
      generalize nameOf s k = nm at *
      by_cases hb4 : (k : Int) < bf
      · by_cases hnm : nm = x
        · subst hnm
          have HE := Lib.hid (HYES.out ⟨hb4, rfl⟩)
          go_wp2
          refine ⟨⟨k + 1, by omega, rfl, by rw [HE.out], Below.trans HBEL.out (by repeat (first | exact Below.refl _ _ | refine Below.drew ?_ | refine Below.alloc ?_ (by first | exact Nat.le_refl _ | (simp; done) | (simp; omega) | omega) _ | refine Below.more ?_ (by first | exact Nat.le_refl _ | (simp; done) | (simp; omega) | omega) _ _ | refine Below.setCell ?_ (by first | exact Nat.le_refl _ | (simp; done) | (simp; omega) | omega) _ | assumption))⟩, by simp only [intOf]; omega⟩
        · have u1 : (nm.toList == x.toList) = false := by
            rw [beq_eq_false_iff_ne]; exact fun h => hnm (bytes_ext2 h)
          have HE := Lib.hid (HNO.out (fun h => hnm h.2))
          clear hnm
          go_wp2
          refine ⟨⟨k + 1, by omega, rfl, by rw [HE.out], Below.trans HBEL.out (by repeat (first | exact Below.refl _ _ | refine Below.drew ?_ | refine Below.alloc ?_ (by first | exact Nat.le_refl _ | (simp; done) | (simp; omega) | omega) _ | refine Below.more ?_ (by first | exact Nat.le_refl _ | (simp; done) | (simp; omega) | omega) _ _ | refine Below.setCell ?_ (by first | exact Nat.le_refl _ | (simp; done) | (simp; omega) | omega) _ | assumption))⟩, by simp only [intOf]; omega⟩
      · have HE := Lib.hid (HNO.out (fun h => hb4 h.1))
        go_wp2
        refine ⟨⟨k + 1, by omega, rfl, by rw [HE.out], Below.trans HBEL.out (by repeat (first | exact Below.refl _ _ | refine Below.drew ?_ | refine Below.alloc ?_ (by first | exact Nat.le_refl _ | (simp; done) | (simp; omega) | omega) _ | refine Below.more ?_ (by first | exact Nat.le_refl _ | (simp; done) | (simp; omega) | omega) _ _ | refine Below.setCell ?_ (by first | exact Nat.le_refl _ | (simp; done) | (simp; omega) | omega) _ | assumption))⟩, by simp only [intOf]; omega⟩
    · have hk1 : ¬ (k : Int) < (m : Int) := by omega
      obtain rfl : k = m := by omega
      go_wp2
      go_ret
      exact ⟨rfl, HBEL.out⟩
/-- A node whose name is not known. -/
def unkn (l : List NodeD) (s : List AssignmentD) (m i : Nat) : Prop :=
  ((l.getD i default).f0 = 2 ∧ isVar (l.getD i default).f1 = false ∧ ¬ hasB4 s m (l.getD i default).f1 (ownerD l s m i)) ∨ ((l.getD i default).f0 = 8 ∧ arityI (l.getD i default).f1 < 0)
open Classical in
/-- The first of n that is bad. -/
noncomputable def firstBad (P : Nat → Prop) (n : Nat) : Option Nat := (List.range n).find? fun i => decide (P i)
theorem firstBad_at {P : Nat → Prop} {n i : Nat} (h : i < n) (hp : P i) (hn : ∀ j, j < i → ¬ P j) : firstBad P n = some i := by
  unfold firstBad
  have e : List.range n = List.range i ++ (i :: (List.range (n - i - 1)).map (· + (i + 1))) := by
    apply List.ext_getElem?
    intro j
    by_cases h1 : j < i
    · rw [List.getElem?_append_left (by simpa using h1), List.getElem?_range (by omega), List.getElem?_range h1]
    · rw [List.getElem?_append_right (by simp; omega), List.length_range]
      by_cases h2 : j = i
      · subst h2; simp [List.getElem?_range h]
      · obtain ⟨d, rfl⟩ : ∃ d, j = i + 1 + d := ⟨j - (i + 1), by omega⟩
        rw [show i + 1 + d - i = d + 1 by omega, List.getElem?_cons_succ, List.getElem?_map]
        by_cases h3 : i + 1 + d < n
        · rw [List.getElem?_range h3, List.getElem?_range (by omega)]; simp; omega
        · rw [List.getElem?_eq_none (by simp; omega), List.getElem?_eq_none (by simp; omega)]; rfl
  rw [e, List.find?_append, List.find?_eq_none.2 (fun j hj => by simpa using hn j (List.mem_range.1 hj)), List.find?_cons_of_pos (by simpa using hp)]
  rfl
theorem firstBad_none {P : Nat → Prop} {n : Nat} (h : ∀ j, j < n → ¬ P j) : firstBad P n = none := by
  unfold firstBad
  exact List.find?_eq_none.2 (fun j hj => by simpa using h j (List.mem_range.1 hj))
/-- .. as an index, or -1. -/
noncomputable def badI (P : Nat → Prop) (n : Nat) : Int := match firstBad P n with | some i => (i : Int) | none => -1
theorem badI_at {P : Nat → Prop} {n i : Nat} (h : i < n) (hp : P i) (hn : ∀ j, j < i → ¬ P j) : badI P n = i := by rw [badI, firstBad_at h hp hn]
theorem badI_none {P : Nat → Prop} {n : Nat} (h : ∀ j, j < n → ¬ P j) : badI P n = -1 := by rw [badI, firstBad_none h]
set_option maxRecDepth 100000 in
set_option maxHeartbeats 8000000 in
theorem l14Names_c (v : Value) (p : ProgD) (w : World) (hr : ProgramR w v p) (hs : ProgramSz 1048576 p) (hval : validB p = true) :
    Calls Try.prog 70 #[v] w fun e w' => e = .returned (.int .i64 (badI (unkn p.nodes p.asg p.nA) p.nN)) ∧ Below w.heap.size w w' := by
  have HM := Lib.hid hr
  have HSZ := Lib.hid hs
  have HOW := Lib.hid (fun (W : World) (hb : Below w.heap.size w W) => l14Owners_c v p W (hr.below hb) hs hval)
  have HAS := Lib.hid (fun (W : World) (hb : Below w.heap.size w W) (x : ByteArray) (b : Int) => l14Assigned_c v p x b W (hr.below hb) hs)
  obtain ⟨a, c, a', c', rfl, ⟨A, K, h1, h2⟩, h3⟩ := hr
  obtain ⟨hs1, hs2, hs3, hs4⟩ := hs
  have HZ := Lib.hid hs3
  clear hs3 hs4 h3 h2
  have HBA := Lib.hid (fun i h1 h2 h3 => badI_at (P := unkn p.nodes p.asg p.nA) (n := p.nN) (i := i) h1 h2 h3)
  have HBN := Lib.hid (fun h => badI_none (P := unkn p.nodes p.asg p.nA) (n := p.nN) h)
  have HUN := Lib.hid (show ∀ i, unkn p.nodes p.asg p.nA i ↔ (((p.nodes.getD i default).f0 = 2 ∧ isVar (p.nodes.getD i default).f1 = false ∧ ¬ hasB4 p.asg p.nA (p.nodes.getD i default).f1 (ownerD p.nodes p.asg p.nA i)) ∨ ((p.nodes.getD i default).f0 = 8 ∧ arityI (p.nodes.getD i default).f1 < 0)) from fun _ => Iff.rfl)
  generalize badI (unkn p.nodes p.asg p.nA) p.nN = res at *
  generalize unkn p.nodes p.asg p.nA = bad at *
  generalize p.nN = n at *
  generalize p.nA = m at *
  generalize p.nodes = l at *
  generalize p.asg = s at *
  have HR := Lib.hid h1
  clear h1
  go_enter Try.func70, Try.ntmps70
  go_wp2_with (go_at_call 68; go_loud (refine (HOW.out _ (by repeat (first | exact Below.refl _ _ | refine Below.drew ?_ | refine Below.alloc ?_ (by first | exact Nat.le_refl _ | (simp; done) | (simp; omega) | omega) _ | refine Below.more ?_ (by first | exact Nat.le_refl _ | (simp; done) | (simp; omega) | omega) _ _ | refine Below.setCell ?_ (by first | exact Nat.le_refl _ | (simp; done) | (simp; omega) | omega) _ | assumption))).mono ?_; rintro e wn ⟨U, L, rfl, hU, hu, hL, hbn⟩; have q0 : wn.cell? ⟨w.heap.size, 0, none⟩ = some (.slice a n c) := cell_below hbn (by simp [go_sem]); have q1 : wn.cell? ⟨w.heap.size, 1, none⟩ = some (.slice a' m c') := cell_below hbn (by simp [go_sem]); have y1 : w.heap.size < wn.heap.size := World.block_lt_of_cell? _ _ q0; have HU := Lib.hid hu; have HL := Lib.hid hL; have HB0 := Lib.hid (Below.trans (show Below w.heap.size w _ from (by repeat (first | exact Below.refl _ _ | refine Below.drew ?_ | refine Below.alloc ?_ (by first | exact Nat.le_refl _ | (simp; done) | (simp; omega) | omega) _ | refine Below.more ?_ (by first | exact Nat.le_refl _ | (simp; done) | (simp; omega) | omega) _ _ | refine Below.setCell ?_ (by first | exact Nat.le_refl _ | (simp; done) | (simp; omega) | omega) _ | assumption))) (hbn.mono (by first | (simp; done) | (simp; omega)))); clear hu hL hbn))
  go_loopw [11] (fun i wr => ∃ (k : Nat), k ≤ n ∧ i = .int .i64 k ∧ Hid (∀ j, j < k → ¬ bad j) ∧ Below w.heap.size w wr ∧ wr.cell? ⟨w.heap.size, 0, none⟩ = some (.slice a n c) ∧ wr.cell? ⟨w.heap.size, 1, none⟩ = some (.slice a' m c') ∧ wr.heap[U]? = some (.cells ⟨ownV L⟩ 3 (0, 0))) (fun i _ => n - (intOf i).toNat)
  case atStart => exact ⟨0, by omega, rfl, Lib.hid (fun j hj => by omega), HB0.out, q0, q1, HU.out⟩
  case round =>
    clear q0 q1 HB0 HU y1
    obtain ⟨k, hk, rfl, HALL, hbel, q0, q1, hu⟩ := hrel
    have HBEL := Lib.hid hbel
    have HU := Lib.hid hu
    have y1 : w.heap.size < wr.heap.size := World.block_lt_of_cell? _ _ q0
    have y2 : U < wr.heap.size := (Array.getElem?_eq_some_iff.1 hu).1
    clear hbel hu
    by_cases hlt : k < n
    · have hk1 : (k : Int) < (n : Int) := by omega
      obtain ⟨b, o, e, hb, hc⟩ := HR.out.below HBEL.out (by omega)
      subst e
      have c0 : wr.cell? ⟨b, o + k * 4, none⟩ = some (.int .i64 (l.getD k default).f0) := hc k hlt 0 (by omega)
      have c1 : wr.cell? ⟨b, o + k * 4 + 1, none⟩ = some (.string (l.getD k default).f1) := hc k hlt 1 (by omega)
      have c2 : wr.cell? ⟨b, o + k * 4 + 2, none⟩ = some (.int .i64 (l.getD k default).f2) := hc k hlt 2 (by omega)
      have c3 : wr.cell? ⟨b, o + k * 4 + 3, none⟩ = some (.slice (A k) (l.getD k default).f3.length (K k)) := hc k hlt 3 (by omega)
      clear hc
      have k0 : wr.cell? ⟨U, k, none⟩ = some (.int .i64 (ownerD l s m k)) := by rw [cell_of_row _ _ k _ _ (0, 0) HU.out, ← HL.out.2 k hlt]; simpa using ownV_get (by rw [HL.out.1]; exact hlt)
      have HB := Lib.hid (HUN.out k)
      have HNX := Lib.hid (show ¬ bad k → ∀ j, j < k + 1 → ¬ bad j from fun h j hj => by
        by_cases e : j = k
        · subst e; exact h
        · exact HALL.out j (by omega))
      have HBD := Lib.hid (show bad k → res = (k : Int) from fun h => HBA.out k hlt h HALL.out)
      generalize ownerD l s m k = ow at *
      generalize (l.getD k default).f3.length = n3 at *
      generalize A k = ak at *
      generalize K k = kk at *
      generalize l.getD k default = x at *
      obtain ⟨x0, x1, x2, x3⟩ := x
      dsimp only at c0 c1 c2 HB
      have HLH := Lib.hid (lastTo_has s x1 ow m)
      have HAS2 := Lib.hid (fun (W : World) (hb : Below wr.heap.size wr W) => HAS.out W (HBEL.out.trans (hb.mono (Nat.le_of_lt y1))) x1 ow)
      generalize lastTo s x1 ow m = lt at *
      by_cases h2 : x0 = 2
      · subst h2
        cases hv : isVar x1
        · have HV := Lib.hid hv
          by_cases hlt0 : lt < 0
          · have HF := Lib.hid (HBD.out (HB.out.2 (.inl ⟨rfl, hv, fun h => by have := HLH.out.2 h; omega⟩)))
            go_wp2
            (first | refine region_q2 (by kernel_rfl) (by kernel_rfl) ?_ | refine region_q (by kernel_rfl) (by kernel_rfl) ?_)
            repeat (first | go_big_quiet_skip | (go_big_quiet_want; go_simp; go_big_quiet_on))
            (refine wpQuiet_step (fun K hK => ?_); go_simp; refine ⟨_, fun zt => ext_below (spec_IsVariable x1 _), hK _ ?_⟩; clear hK K)
            repeat (first | go_big_quiet_skip | (go_big_quiet_want; go_simp; go_big_quiet_on))
            (refine wpQuiet_step (fun K hK => ?_); go_simp; refine ⟨_, fun zt => ext_below (HAS2.out _ (by repeat (first | exact Below.refl _ _ | refine Below.drew ?_ | refine Below.alloc ?_ (by first | exact Nat.le_refl _ | (simp; done) | (simp; omega) | omega) _ | refine Below.more ?_ (by first | exact Nat.le_refl _ | (simp; done) | (simp; omega) | omega) _ _ | refine Below.setCell ?_ (by first | exact Nat.le_refl _ | (simp; done) | (simp; omega) | omega) _ | assumption))), hK _ ?_⟩; clear hK K)
            repeat (first | go_big_quiet_skip | (go_big_quiet_want; go_simp; go_big_quiet_on))
            (refine wpQuiet_nil ?_; intro X nX)
            go_wp2
            go_ret
            exact ⟨ret_int HF.out.symm, Below.trans HBEL.out (by repeat (first | exact Below.refl _ _ | refine Below.drew ?_ | refine Below.alloc ?_ (by first | exact Nat.le_refl _ | (simp; done) | (simp; omega) | omega) _ | refine Below.more ?_ (by first | exact Nat.le_refl _ | (simp; done) | (simp; omega) | omega) _ _ | refine Below.setCell ?_ (by first | exact Nat.le_refl _ | (simp; done) | (simp; omega) | omega) _ | assumption))⟩
          · have HF := Lib.hid (HNX.out (fun h => by
              rcases HB.out.1 h with ⟨_, _, h3⟩ | ⟨h3, _⟩
              · exact h3 (HLH.out.1 (by omega))
              · cases h3))
            go_wp2
            (first | refine region_q2 (by kernel_rfl) (by kernel_rfl) ?_ | refine region_q (by kernel_rfl) (by kernel_rfl) ?_)
            repeat (first | go_big_quiet_skip | (go_big_quiet_want; go_simp; go_big_quiet_on))
            (refine wpQuiet_step (fun K hK => ?_); go_simp; refine ⟨_, fun zt => ext_below (spec_IsVariable x1 _), hK _ ?_⟩; clear hK K)
            repeat (first | go_big_quiet_skip | (go_big_quiet_want; go_simp; go_big_quiet_on))
            (refine wpQuiet_step (fun K hK => ?_); go_simp; refine ⟨_, fun zt => ext_below (HAS2.out _ (by repeat (first | exact Below.refl _ _ | refine Below.drew ?_ | refine Below.alloc ?_ (by first | exact Nat.le_refl _ | (simp; done) | (simp; omega) | omega) _ | refine Below.more ?_ (by first | exact Nat.le_refl _ | (simp; done) | (simp; omega) | omega) _ _ | refine Below.setCell ?_ (by first | exact Nat.le_refl _ | (simp; done) | (simp; omega) | omega) _ | assumption))), hK _ ?_⟩; clear hK K)
            repeat (first | go_big_quiet_skip | (go_big_quiet_want; go_simp; go_big_quiet_on))
            (refine wpQuiet_nil ?_; intro X nX)
            go_wp2
            refine ⟨⟨k + 1, by omega, rfl, HF, Below.trans HBEL.out (by repeat (first | exact Below.refl _ _ | refine Below.drew ?_ | refine Below.alloc ?_ (by first | exact Nat.le_refl _ | (simp; done) | (simp; omega) | omega) _ | refine Below.more ?_ (by first | exact Nat.le_refl _ | (simp; done) | (simp; omega) | omega) _ _ | refine Below.setCell ?_ (by first | exact Nat.le_refl _ | (simp; done) | (simp; omega) | omega) _ | assumption)), cell_below (show Below wr.heap.size wr _ from (by repeat (first | exact Below.refl _ _ | refine Below.drew ?_ | refine Below.alloc ?_ (by first | exact Nat.le_refl _ | (simp; done) | (simp; omega) | omega) _ | refine Below.more ?_ (by first | exact Nat.le_refl _ | (simp; done) | (simp; omega) | omega) _ _ | refine Below.setCell ?_ (by first | exact Nat.le_refl _ | (simp; done) | (simp; omega) | omega) _ | assumption))) q0, cell_below (show Below wr.heap.size wr _ from (by repeat (first | exact Below.refl _ _ | refine Below.drew ?_ | refine Below.alloc ?_ (by first | exact Nat.le_refl _ | (simp; done) | (simp; omega) | omega) _ | refine Below.more ?_ (by first | exact Nat.le_refl _ | (simp; done) | (simp; omega) | omega) _ _ | refine Below.setCell ?_ (by first | exact Nat.le_refl _ | (simp; done) | (simp; omega) | omega) _ | assumption))) q1, ((show Below wr.heap.size wr _ from (by repeat (first | exact Below.refl _ _ | refine Below.drew ?_ | refine Below.alloc ?_ (by first | exact Nat.le_refl _ | (simp; done) | (simp; omega) | omega) _ | refine Below.more ?_ (by first | exact Nat.le_refl _ | (simp; done) | (simp; omega) | omega) _ _ | refine Below.setCell ?_ (by first | exact Nat.le_refl _ | (simp; done) | (simp; omega) | omega) _ | assumption))).block U y2).trans HU.out⟩, by simp only [intOf]; omega⟩
        · have HV := Lib.hid hv
          have HF := Lib.hid (HNX.out (fun h => by
              rcases HB.out.1 h with ⟨_, h3, _⟩ | ⟨h3, _⟩
              · rw [hv] at h3; cases h3
              · cases h3))
          go_wp2
          (first | refine region_q2 (by kernel_rfl) (by kernel_rfl) ?_ | refine region_q (by kernel_rfl) (by kernel_rfl) ?_)
          repeat (first | go_big_quiet_skip | (go_big_quiet_want; go_simp; go_big_quiet_on))
          (refine wpQuiet_step (fun K hK => ?_); go_simp; refine ⟨_, fun zt => ext_below (spec_IsVariable x1 _), hK _ ?_⟩; clear hK K)
          repeat (first | go_big_quiet_skip | (go_big_quiet_want; go_simp; go_big_quiet_on))
          (refine wpQuiet_nil ?_; intro X nX)
          go_wp2
          refine ⟨⟨k + 1, by omega, rfl, HF, Below.trans HBEL.out (by repeat (first | exact Below.refl _ _ | refine Below.drew ?_ | refine Below.alloc ?_ (by first | exact Nat.le_refl _ | (simp; done) | (simp; omega) | omega) _ | refine Below.more ?_ (by first | exact Nat.le_refl _ | (simp; done) | (simp; omega) | omega) _ _ | refine Below.setCell ?_ (by first | exact Nat.le_refl _ | (simp; done) | (simp; omega) | omega) _ | assumption)), cell_below (show Below wr.heap.size wr _ from (by repeat (first | exact Below.refl _ _ | refine Below.drew ?_ | refine Below.alloc ?_ (by first | exact Nat.le_refl _ | (simp; done) | (simp; omega) | omega) _ | refine Below.more ?_ (by first | exact Nat.le_refl _ | (simp; done) | (simp; omega) | omega) _ _ | refine Below.setCell ?_ (by first | exact Nat.le_refl _ | (simp; done) | (simp; omega) | omega) _ | assumption))) q0, cell_below (show Below wr.heap.size wr _ from (by repeat (first | exact Below.refl _ _ | refine Below.drew ?_ | refine Below.alloc ?_ (by first | exact Nat.le_refl _ | (simp; done) | (simp; omega) | omega) _ | refine Below.more ?_ (by first | exact Nat.le_refl _ | (simp; done) | (simp; omega) | omega) _ _ | refine Below.setCell ?_ (by first | exact Nat.le_refl _ | (simp; done) | (simp; omega) | omega) _ | assumption))) q1, ((show Below wr.heap.size wr _ from (by repeat (first | exact Below.refl _ _ | refine Below.drew ?_ | refine Below.alloc ?_ (by first | exact Nat.le_refl _ | (simp; done) | (simp; omega) | omega) _ | refine Below.more ?_ (by first | exact Nat.le_refl _ | (simp; done) | (simp; omega) | omega) _ _ | refine Below.setCell ?_ (by first | exact Nat.le_refl _ | (simp; done) | (simp; omega) | omega) _ | assumption))).block U y2).trans HU.out⟩, by simp only [intOf]; omega⟩
      by_cases h8 : x0 = 8
      · subst h8
        clear h2
        by_cases har : arityI x1 < 0
        · have HF := Lib.hid (HBD.out (HB.out.2 (.inr ⟨rfl, har⟩)))
          go_wp2
          go_region
          go_wp2_with (go_at_call 71; refine (spec_Arity _ _).mono ?_; rintro e w' ⟨rfl, rfl⟩)
          go_ret
          exact ⟨ret_int HF.out.symm, Below.trans HBEL.out (by repeat (first | exact Below.refl _ _ | refine Below.drew ?_ | refine Below.alloc ?_ (by first | exact Nat.le_refl _ | (simp; done) | (simp; omega) | omega) _ | refine Below.more ?_ (by first | exact Nat.le_refl _ | (simp; done) | (simp; omega) | omega) _ _ | refine Below.setCell ?_ (by first | exact Nat.le_refl _ | (simp; done) | (simp; omega) | omega) _ | assumption))⟩
        · have HF := Lib.hid (HNX.out (fun h => by
              rcases HB.out.1 h with ⟨h3, _, _⟩ | ⟨_, h3⟩
              · cases h3
              · exact har h3))
          go_wp2
          go_region
          go_wp2_with (go_at_call 71; refine (spec_Arity _ _).mono ?_; rintro e w' ⟨rfl, rfl⟩)
          refine ⟨⟨k + 1, by omega, rfl, HF, Below.trans HBEL.out (by repeat (first | exact Below.refl _ _ | refine Below.drew ?_ | refine Below.alloc ?_ (by first | exact Nat.le_refl _ | (simp; done) | (simp; omega) | omega) _ | refine Below.more ?_ (by first | exact Nat.le_refl _ | (simp; done) | (simp; omega) | omega) _ _ | refine Below.setCell ?_ (by first | exact Nat.le_refl _ | (simp; done) | (simp; omega) | omega) _ | assumption)), cell_below (show Below wr.heap.size wr _ from (by repeat (first | exact Below.refl _ _ | refine Below.drew ?_ | refine Below.alloc ?_ (by first | exact Nat.le_refl _ | (simp; done) | (simp; omega) | omega) _ | refine Below.more ?_ (by first | exact Nat.le_refl _ | (simp; done) | (simp; omega) | omega) _ _ | refine Below.setCell ?_ (by first | exact Nat.le_refl _ | (simp; done) | (simp; omega) | omega) _ | assumption))) q0, cell_below (show Below wr.heap.size wr _ from (by repeat (first | exact Below.refl _ _ | refine Below.drew ?_ | refine Below.alloc ?_ (by first | exact Nat.le_refl _ | (simp; done) | (simp; omega) | omega) _ | refine Below.more ?_ (by first | exact Nat.le_refl _ | (simp; done) | (simp; omega) | omega) _ _ | refine Below.setCell ?_ (by first | exact Nat.le_refl _ | (simp; done) | (simp; omega) | omega) _ | assumption))) q1, ((show Below wr.heap.size wr _ from (by repeat (first | exact Below.refl _ _ | refine Below.drew ?_ | refine Below.alloc ?_ (by first | exact Nat.le_refl _ | (simp; done) | (simp; omega) | omega) _ | refine Below.more ?_ (by first | exact Nat.le_refl _ | (simp; done) | (simp; omega) | omega) _ _ | refine Below.setCell ?_ (by first | exact Nat.le_refl _ | (simp; done) | (simp; omega) | omega) _ | assumption))).block U y2).trans HU.out⟩, by simp only [intOf]; omega⟩
      have q2 : (x0 == 2) = false := by simpa using h2
      have q8 : (x0 == 8) = false := by simpa using h8
      have HF := Lib.hid (HNX.out (fun h => by
          rcases HB.out.1 h with ⟨h3, _, _⟩ | ⟨h3, _⟩
          · exact h2 h3
          · exact h8 h3))
      clear h2 h8
      go_wp2
      go_region
      go_wp2
      refine ⟨⟨k + 1, by omega, rfl, HF, Below.trans HBEL.out (by repeat (first | exact Below.refl _ _ | refine Below.drew ?_ | refine Below.alloc ?_ (by first | exact Nat.le_refl _ | (simp; done) | (simp; omega) | omega) _ | refine Below.more ?_ (by first | exact Nat.le_refl _ | (simp; done) | (simp; omega) | omega) _ _ | refine Below.setCell ?_ (by first | exact Nat.le_refl _ | (simp; done) | (simp; omega) | omega) _ | assumption)), cell_below (show Below wr.heap.size wr _ from (by repeat (first | exact Below.refl _ _ | refine Below.drew ?_ | refine Below.alloc ?_ (by first | exact Nat.le_refl _ | (simp; done) | (simp; omega) | omega) _ | refine Below.more ?_ (by first | exact Nat.le_refl _ | (simp; done) | (simp; omega) | omega) _ _ | refine Below.setCell ?_ (by first | exact Nat.le_refl _ | (simp; done) | (simp; omega) | omega) _ | assumption))) q0, cell_below (show Below wr.heap.size wr _ from (by repeat (first | exact Below.refl _ _ | refine Below.drew ?_ | refine Below.alloc ?_ (by first | exact Nat.le_refl _ | (simp; done) | (simp; omega) | omega) _ | refine Below.more ?_ (by first | exact Nat.le_refl _ | (simp; done) | (simp; omega) | omega) _ _ | refine Below.setCell ?_ (by first | exact Nat.le_refl _ | (simp; done) | (simp; omega) | omega) _ | assumption))) q1, ((show Below wr.heap.size wr _ from (by repeat (first | exact Below.refl _ _ | refine Below.drew ?_ | refine Below.alloc ?_ (by first | exact Nat.le_refl _ | (simp; done) | (simp; omega) | omega) _ | refine Below.more ?_ (by first | exact Nat.le_refl _ | (simp; done) | (simp; omega) | omega) _ _ | refine Below.setCell ?_ (by first | exact Nat.le_refl _ | (simp; done) | (simp; omega) | omega) _ | assumption))).block U y2).trans HU.out⟩, by simp only [intOf]; omega⟩
    · have hk1 : ¬ (k : Int) < (n : Int) := by omega
      have HF := Lib.hid (HBN.out (fun j hj => HALL.out j (by omega)))
      go_wp2
      go_ret
      exact ⟨ret_int HF.out.symm, HBEL.out⟩
end Go.Proofs.Ytgennnoplmhckaa
