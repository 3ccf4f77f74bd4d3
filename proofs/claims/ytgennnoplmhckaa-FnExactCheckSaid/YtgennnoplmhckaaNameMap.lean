/- The first assignment to each name: a map that the call makes. -/
import Derived.Test.YtgennnoplmhckaaOwners
import Derived.Maps.OwnSet
namespace Go.Proofs.Ytgennnoplmhckaa
open Go Go.RowKit Go.Maps
def nameOf (s : List AssignmentD) (k : Nat) : ByteArray := (s.getD k default).f0
open Classical in
/-- The first assignment before k to the name x. -/
noncomputable def fx (s : List AssignmentD) (x : ByteArray) (k : Nat) : Option Nat := (List.range k).find? fun i => decide (nameOf s i = x)
theorem fx_some {s : List AssignmentD} {x : ByteArray} {k i : Nat} (h : fx s x k = some i) : i < k ∧ nameOf s i = x := by
  unfold fx at h
  refine ⟨List.mem_range.1 (List.mem_of_find?_eq_some h), ?_⟩
  simpa using List.find?_some h
theorem fx_none {s : List AssignmentD} {x : ByteArray} {k : Nat} : fx s x k = none ↔ ∀ i, i < k → nameOf s i ≠ x := by
  simp [fx, List.find?_eq_none]
theorem fx_succ (s : List AssignmentD) (x : ByteArray) (k : Nat) : fx s x (k + 1) = (fx s x k).or (open Classical in if nameOf s k = x then some k else none) := by
  unfold fx
  rw [List.range_succ, List.find?_append]
  congr 1
  by_cases h : nameOf s k = x <;> simp [h]
theorem fx_keep {s : List AssignmentD} {x : ByteArray} {k i : Nat} (h : fx s x k = some i) : ∀ {n : Nat}, k ≤ n → fx s x n = some i := by
  intro n hn
  induction hn with
  | refl => exact h
  | step _ ih => rw [fx_succ, ih]; rfl
/-- Some assignment before b is to the name x. -/
def hasB4 (s : List AssignmentD) (m : Nat) (x : ByteArray) (b : Int) : Prop := ∃ k, k < m ∧ (k : Int) < b ∧ nameOf s k = x
theorem hasB4_fx {s : List AssignmentD} {m : Nat} {x : ByteArray} {b : Int} : hasB4 s m x b ↔ ∃ i, fx s x m = some i ∧ (i : Int) < b := by
  constructor
  · rintro ⟨k, hk, hb, hx⟩
    cases h : fx s x (k + 1) with
    | none => exact absurd hx (fx_none.1 h k (Nat.lt_succ_self k))
    | some i =>
      have := fx_some h
      exact ⟨i, fx_keep h (by omega), by omega⟩
  · rintro ⟨i, hi, hb⟩
    have := fx_some hi
    exact ⟨i, this.1, hb, this.2⟩
theorem lit_str {a b : ByteArray} (h : Lit.string a.data.toList = Lit.string b.data.toList) : a = b := by
  obtain ⟨⟨x⟩⟩ := a
  obtain ⟨⟨y⟩⟩ := b
  simpa using h
theorem name_law : Keyed Try.prog 9 := string_keyed Try.underlying9
theorem name_key {x : ByteArray} (h : x.size ≤ maxLen) : keyOf Try.prog 9 (.string x) = some (.string x.data.toList) := WideMaps.keyOf_string_mk Try.underlying9 h
theorem zero_int (w : World) : (zeroValue 3).run Try.prog w = .ok (.int .i64 0) w := by kernel_rfl
/-- Block b is a map of at most n names: each has its first assignment before k. -/
def FirstMap (s : List AssignmentD) (w : World) (b n k : Nat) : Prop :=
  ∃ D : DataW Unit, w.ownsMap Try.prog 9 (plainElem Try.prog 3) b n D ∧ ∀ x : ByteArray, x.size ≤ maxLen → Maps.has D (.string x.data.toList) = (fx s x k).isSome ∧ D.atKey (.string x.data.toList) (.lit (.int .i64 0)) = .lit (.int .i64 (((fx s x k).getD 0 : Nat) : Int))
theorem FirstMap.made (s : List AssignmentD) (w : World) : FirstMap s (w.alloc (.map #[] 0)) w.heap.size 0 0 :=
  ⟨.map [], World.ownsMap_made w _ _ _, fun x _ => ⟨rfl, rfl⟩⟩
theorem FirstMap.kept {s : List AssignmentD} {w w' : World} {b n k : Nat} (h : FirstMap s w b n k) (hb : Below w.heap.size w w') : FirstMap s w' b n k := by
  obtain ⟨D, h1, h2⟩ := h
  exact ⟨D, h1.kept (row := none) ⟨hb.os, hb.tape, hb.output, hb.size, fun i hi _ => hb.block i hi⟩ (by simp), h2⟩
theorem FirstMap.lt {s : List AssignmentD} {w : World} {b n k : Nat} (h : FirstMap s w b n k) : b < w.heap.size := by
  obtain ⟨D, h1, _⟩ := h
  exact h1.lt
theorem FirstMap.skip {s : List AssignmentD} {w : World} {b n k i : Nat} (h : FirstMap s w b n k) (hk : fx s (nameOf s k) k = some i) : FirstMap s w b (n + 1) (k + 1) := by
  obtain ⟨D, h1, h2⟩ := h
  refine ⟨D, h1.mono (Nat.le_succ n), fun x hx => ?_⟩
  have e : fx s x (k + 1) = fx s x k := by
    rw [fx_succ]
    by_cases e : nameOf s k = x
    · rw [← e, hk]; rfl
    · rw [if_neg e]; cases fx s x k <;> rfl
  rw [e]
  exact h2 x hx
theorem FirstMap.look {s : List AssignmentD} {w : World} {b n k : Nat} (h : FirstMap s w b n k) {x : ByteArray} (hx : x.size ≤ maxLen) :
    (Instr.lookup 88 (.map (some b)) (.string x) true).run Try.prog w = .ok (.tuple #[.int .i64 (((fx s x k).getD 0 : Nat) : Int), .bool (fx s x k).isSome]) w ∧
      (Instr.lookup 88 (.map (some b)) (.string x) false).run Try.prog w = .ok (.int .i64 (((fx s x k).getD 0 : Nat) : Int)) w := by
  obtain ⟨D, h1, h2⟩ := h
  obtain ⟨hh, ha⟩ := h2 x hx
  constructor
  · obtain ⟨v, ps, hr, hv⟩ := h1.look_ok name_law Try.underlying88 (zero_int w) (plainElem_int Try.underlying3 (by decide)) (name_key hx)
    obtain ⟨c, rfl, hc, _⟩ := plainElem_int_inv Try.underlying3 hv
    rw [ha] at hc
    simp only [Prod.mk.injEq, DataW.lit.injEq, Lit.int.injEq, true_and] at hc
    rw [hr, hh, hc.1]
  · obtain ⟨v, ps, hr, hv⟩ := h1.lookup name_law Try.underlying88 (zero_int w) (plainElem_int Try.underlying3 (by decide)) (name_key hx)
    obtain ⟨c, rfl, hc, _⟩ := plainElem_int_inv Try.underlying3 hv
    rw [ha] at hc
    simp only [Prod.mk.injEq, DataW.lit.injEq, Lit.int.injEq, true_and] at hc
    rw [hr, hc.1]
theorem FirstMap.store {s : List AssignmentD} {w : World} {b n k : Nat} (h : FirstMap s w b n k) (hn : n < maxLen) (hx : (nameOf s k).size ≤ maxLen) (hk : fx s (nameOf s k) k = none) (hkm : k ≤ 1048576) :
    ∃ w', (Instr.mapUpdate 88 (.map (some b)) (.string (nameOf s k)) (.int .i64 (k : Int))).run Try.prog w = .ok () w' ∧ FirstMap s w' b (n + 1) (k + 1) ∧ Chg b (b + 1) w w' := by
  obtain ⟨D, h1, h2⟩ := h
  obtain ⟨w', hr, ho, hg⟩ := h1.update name_law Try.underlying88 hn (name_key hx) (plainElem_int Try.underlying3 (WalkArith.wf_i64 (n := (k : Int)) (by omega)))
  refine ⟨w', hr, ⟨_, ho, fun x hx' => ?_⟩, ⟨hg.os, hg.tape, hg.output, hg.size, fun j hj ho2 => hg.block j hj (fun e => by cases e; omega)⟩⟩
  by_cases e : nameOf s k = x
  · subst e
    rw [fx_succ, hk, if_pos rfl]
    exact ⟨Maps.has_put_same h1.isMap (name_law.key (name_key hx)) _, Maps.atKey_put_same h1.isMap (name_law.key (name_key hx)) _ _⟩
  · have hne : Lit.string x.data.toList ≠ Lit.string (nameOf s k).data.toList := fun h => e (lit_str h).symm
    have e2 : fx s x (k + 1) = fx s x k := by rw [fx_succ, if_neg e]; cases fx s x k <;> rfl
    rw [e2, Maps.has_put_other hne, Maps.atKey_put_other hne]
    exact h2 x hx'
section
variable (w : World) {ops : Array Oper} {rest : List Oper} {o : Oper} {a : Act} {Q : Exit → Act → World → Prop}
theorem wpList_look_name (hg : o.guard = none) (m y : Operand) (hop : o.op = Op.lookup 88 m y true) (s : List AssignmentD) (b n k : Nat) (hm : a.eval m = .map (some b)) (h : FirstMap s w b n k) (x : ByteArray) (hx : x.size ≤ maxLen) (hy : a.eval y = .string x)
    (hK : wpList Try.prog ops Q rest (a.put o.dst (.tuple #[.int .i64 (((fx s x k).getD 0 : Nat) : Int), .bool (fx s x k).isSome])) w) : wpList Try.prog ops Q (o :: rest) a w := by
  refine wpList_plain hg fun K' hK' => ?_
  unfold Oper.wp
  simp [execOp, hop, hm, hy, (h.look hx).1, Result.andThen]
  exact hK' _ _ hK
theorem wpList_store_name (hg : o.guard = none) (m y v : Operand) (hop : o.op = Op.mapUpdate 88 m y v) (s : List AssignmentD) (b n k : Nat) (hm : a.eval m = .map (some b)) (h : FirstMap s w b n k) (hn : n < maxLen) (hx : (nameOf s k).size ≤ maxLen) (hk : fx s (nameOf s k) k = none) (hkm : k ≤ 1048576) (hy : a.eval y = .string (nameOf s k)) (hv : a.eval v = .int .i64 (k : Int))
    (hK : ∀ w', FirstMap s w' b (n + 1) (k + 1) → Chg b (b + 1) w w' → wpList Try.prog ops Q rest (a.put o.dst undef) w') : wpList Try.prog ops Q (o :: rest) a w := by
  refine wpList_plain hg fun K' hK' => ?_
  obtain ⟨w', hrun, r1, r2⟩ := h.store hn hx hk hkm
  unfold Oper.wp
  simp [execOp, hop, hm, hy, hv, hrun, Result.andThen]
  exact hK' _ _ (hK w' r1 r2)
end
set_option maxRecDepth 100000 in
set_option maxHeartbeats 2000000 in
theorem assigned_c (v : Value) (p : ProgD) (w : World) (hr : ProgramR w v p) (hs : ProgramSz 1048576 p) :
    Calls Try.prog 74 #[v] w fun e w' => ∃ b, e = .returned (.map (some b)) ∧ w.heap.size ≤ b ∧ FirstMap p.asg w' b p.nA p.nA ∧ Below w.heap.size w w' := by
  obtain ⟨a, c, a', c', rfl, _, h3⟩ := hr
  obtain ⟨hs1, hs2, _, hs4⟩ := hs
  generalize p.nN = n at *
  generalize p.nA = m at *
  generalize p.asg = s at *
  have HS := Lib.hid h3
  have HZ := Lib.hid hs4
  clear h3 hs4
  have hmm := @run_makeMap Try.prog
  go_enter Try.func74, Try.ntmps74
  go_wp2
  go_loopw [12] (fun i wr => ∃ (k : Nat), k ≤ m ∧ i = .int .i64 k ∧ FirstMap s wr (w.heap.size + 1) k k ∧ Below w.heap.size w wr) (fun i _ => m - (intOf i).toNat)
  case atStart => exact ⟨0, by omega, rfl, by have h := FirstMap.made s (w.alloc (.cells #[.slice a n c, .slice a' m c'] 43)); rw [World.size_alloc] at h; exact h, (by repeat (first | exact Below.refl _ _ | refine Below.drew ?_ | refine Below.alloc ?_ (by first | exact Nat.le_refl _ | (simp; done) | (simp; omega) | omega) _ | refine Below.more ?_ (by first | exact Nat.le_refl _ | (simp; done) | (simp; omega) | omega) _ _ | refine Below.setCell ?_ (by first | exact Nat.le_refl _ | (simp; done) | (simp; omega) | omega) _ | assumption))⟩
  case round =>
    obtain ⟨k, hk, rfl, hf, hbel⟩ := hrel
    have HF := Lib.hid hf
    have HBEL := Lib.hid hbel
    have y1 : w.heap.size + 1 < wr.heap.size := hf.lt
    clear hf hbel
    by_cases hlt : k < m
    · have hk1 : (k : Int) < (m : Int) := by omega
      obtain ⟨b, o, e, hb, hc⟩ := HS.out.below HBEL.out (by omega)
      subst e
      have c0 : wr.cell? ⟨b, o + k * 2, none⟩ = some (.string (nameOf s k)) := hc k hlt 0 (by omega)
      have c1 : wr.cell? ⟨b, o + k * 2 + 1, none⟩ = some (.int .i64 (s.getD k default).f1) := hc k hlt 1 (by omega)
      clear hc
      generalize (s.getD k default).f1 = r1 at *
      have hsz : (nameOf s k).size ≤ maxLen := by have h1 : (nameOf s k).size ≤ 1048576 := HZ.out k hlt; simp only [maxLen]; omega
      cases hfx : fx s (nameOf s k) k with
      | none =>
        have HX := Lib.hid hfx
        clear hfx
        generalize hnm : nameOf s k = nm at *
        have HNM := Lib.hid hnm
        clear hnm
        go_wp2_with (first | (at_lookup; go_loud (refine wpList_look_name _ rfl _ _ rfl s (w.heap.size + 1) k k rfl (HF.out.kept (by repeat (first | exact Below.refl _ _ | refine Below.drew ?_ | refine Below.alloc ?_ (by first | exact Nat.le_refl _ | (simp; done) | (simp; omega) | omega) _ | refine Below.more ?_ (by first | exact Nat.le_refl _ | (simp; done) | (simp; omega) | omega) _ _ | refine Below.setCell ?_ (by first | exact Nat.le_refl _ | (simp; done) | (simp; omega) | omega) _ | assumption))) nm hsz rfl ?_; rw [HX.out])) | (at_mapUpdate; go_loud (refine wpList_store_name _ rfl _ _ _ rfl s (w.heap.size + 1) k k rfl (HF.out.kept (by repeat (first | exact Below.refl _ _ | refine Below.drew ?_ | refine Below.alloc ?_ (by first | exact Nat.le_refl _ | (simp; done) | (simp; omega) | omega) _ | refine Below.more ?_ (by first | exact Nat.le_refl _ | (simp; done) | (simp; omega) | omega) _ _ | refine Below.setCell ?_ (by first | exact Nat.le_refl _ | (simp; done) | (simp; omega) | omega) _ | assumption))) (by simp only [maxLen]; omega) (by rw [HNM.out]; exact hsz) (by rw [HNM.out]; exact HX.out) (by omega) (by rw [HNM.out]; rfl) rfl ?_; intro w2 hf2 hc2; have HF2 := Lib.hid hf2; have HC2 := Lib.hid hc2; clear hf2 hc2)))
        refine ⟨⟨k + 1, by omega, rfl, HF2.out, Below.chg (Below.trans HBEL.out (by repeat (first | exact Below.refl _ _ | refine Below.drew ?_ | refine Below.alloc ?_ (by first | exact Nat.le_refl _ | (simp; done) | (simp; omega) | omega) _ | refine Below.more ?_ (by first | exact Nat.le_refl _ | (simp; done) | (simp; omega) | omega) _ _ | refine Below.setCell ?_ (by first | exact Nat.le_refl _ | (simp; done) | (simp; omega) | omega) _ | assumption))) HC2.out (by omega) (by simp; omega)⟩, by simp only [intOf]; omega⟩
      | some i =>
        have HX := Lib.hid hfx
        have HSK := Lib.hid (HF.out.skip hfx)
        clear hfx
        generalize nameOf s k = nm at *
        go_wp2_with (at_lookup; go_loud (refine wpList_look_name _ rfl _ _ rfl s (w.heap.size + 1) k k rfl (HF.out.kept (by repeat (first | exact Below.refl _ _ | refine Below.drew ?_ | refine Below.alloc ?_ (by first | exact Nat.le_refl _ | (simp; done) | (simp; omega) | omega) _ | refine Below.more ?_ (by first | exact Nat.le_refl _ | (simp; done) | (simp; omega) | omega) _ _ | refine Below.setCell ?_ (by first | exact Nat.le_refl _ | (simp; done) | (simp; omega) | omega) _ | assumption))) nm hsz rfl ?_; rw [HX.out]))
        refine ⟨⟨k + 1, by omega, rfl, HSK.out.kept (by repeat (first | exact Below.refl _ _ | refine Below.drew ?_ | refine Below.alloc ?_ (by first | exact Nat.le_refl _ | (simp; done) | (simp; omega) | omega) _ | refine Below.more ?_ (by first | exact Nat.le_refl _ | (simp; done) | (simp; omega) | omega) _ _ | refine Below.setCell ?_ (by first | exact Nat.le_refl _ | (simp; done) | (simp; omega) | omega) _ | assumption)), Below.trans HBEL.out (by repeat (first | exact Below.refl _ _ | refine Below.drew ?_ | refine Below.alloc ?_ (by first | exact Nat.le_refl _ | (simp; done) | (simp; omega) | omega) _ | refine Below.more ?_ (by first | exact Nat.le_refl _ | (simp; done) | (simp; omega) | omega) _ _ | refine Below.setCell ?_ (by first | exact Nat.le_refl _ | (simp; done) | (simp; omega) | omega) _ | assumption))⟩, by simp only [intOf]; omega⟩
    · have hk1 : ¬ (k : Int) < (m : Int) := by omega
      obtain rfl : k = m := by omega
      go_wp2
      go_ret
      exact ⟨_, rfl, by omega, HF.out, HBEL.out⟩
end Go.Proofs.Ytgennnoplmhckaa
