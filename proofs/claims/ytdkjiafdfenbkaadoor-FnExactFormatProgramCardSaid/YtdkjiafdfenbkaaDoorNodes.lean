/- Contracts of what the laws do with slices of nodes. -/
import Derived.Test.YtdkjiafdfenbkaaDoorRows2
import Derived.Test.YtdkjiafdfenbkaaDoorSString
namespace Go.Proofs.YtdkjiafdfenbkaaDoor
open Go.RowKit
structure NodeD where
  f0 : Int
  f1 : ByteArray
  f2 : Int
  f3 : List Int
instance : Inhabited NodeD := ⟨⟨0, ByteArray.empty, 0, []⟩⟩
@[reducible] def NodeD.cells (x : NodeD) (a : Option Addr) (c : Nat) : List Value := [.int .i64 x.f0, .string x.f1, .int .i64 x.f2, .slice a x.f3.length c]
def NodeD.at (l : List NodeD) (A : Nat → Option Addr) (K : Nat → Nat) (i : Nat) : List Value := (l.getD i default).cells (A i) (K i)
def NodeD.args (l : List NodeD) (i : Nat) : List Int := (l.getD i default).f3
/-- The slice at a reads as the nodes l. -/
def NsR (w : World) (a : Option Addr) (n : Nat) (l : List NodeD) : Prop :=
  ∃ A K, Sl w a 4 n (NodeD.at l A K) ∧ ∀ i, i < n → Sl w (A i) 1 (NodeD.args l i).length (intAt (NodeD.args l i))
/-- .. in blocks of one's own. -/
def NsO (w : World) (lo hi : Nat) (a : Option Addr) (n : Nat) (l : List NodeD) : Prop :=
  ∃ A K, Ow w lo (lo + 1) a 4 n (NodeD.at l A K) ∧ Rows w (lo + 1) hi n A (NodeD.args l)
theorem NsR.below {w w' : World} {a : Option Addr} {n : Nat} {l : List NodeD} (h : NsR w a n l) (b : Below w.heap.size w w') : NsR w' a n l := by
  obtain ⟨A, K, h1, h2⟩ := h
  exact ⟨A, K, h1.below b, fun i hi => (h2 i hi).below b⟩
theorem NsO.r {w : World} {lo hi : Nat} {a : Option Addr} {n : Nat} {l : List NodeD} (h : NsO w lo hi a n l) : NsR w a n l := by
  obtain ⟨A, K, h1, h2⟩ := h
  exact ⟨A, K, h1.sl, fun i hi => (h2.at hi).sl⟩
theorem NsO.chg {w w' : World} {lo hi lo' hi' : Nat} {a : Option Addr} {n : Nat} {l : List NodeD} (h : NsO w lo hi a n l) (k : Chg lo' hi' w w') (hd : hi ≤ lo' ∨ hi' ≤ lo) (hl : lo + 1 ≤ hi) : NsO w' lo hi a n l := by
  obtain ⟨A, K, h1, h2⟩ := h
  exact ⟨A, K, h1.chg k (by omega), h2.chg k (by omega)⟩
theorem NsO.below {w w' : World} {lo hi : Nat} {a : Option Addr} {n : Nat} {l : List NodeD} (h : NsO w lo hi a n l) (b : Below w.heap.size w w') : NsO w' lo hi a n l := by
  obtain ⟨A, K, h1, h2⟩ := h
  exact ⟨A, K, h1.below b, h2.below b⟩
theorem NsO.move {A B : World} {X : Array Obj} {d d' lo hi n : Nat} {a : Option Addr} {l : List NodeD} (h : NsO (more A X d) lo hi a n l) (hlo : A.heap.size ≤ lo) (hs : B.heap.size = A.heap.size) : NsO (more B X d') lo hi a n l := by
  obtain ⟨A', K, h1, h2⟩ := h
  exact ⟨A', K, h1.move hlo hs, h2.move (by omega) hs⟩
def GivesNode (x : NodeD) (w : World) (e : Ending) (w' : World) : Prop :=
  ∃ a c, e = .returned (.agg ⟨x.cells a c⟩) ∧ Ow w' w.heap.size w'.heap.size a 1 x.f3.length (intAt x.f3) ∧ Below w.heap.size w w'
set_option maxRecDepth 100000 in
theorem toNode_c (x : NodeD) (a : Option Addr) (c : Nat) (w : World) (hs : Sl w a 1 x.f3.length (intAt x.f3)) (hn : x.f3.length ≤ 1048576) :
    Calls Tryd.prog 105 #[.agg ⟨x.cells a c⟩] w (GivesNode x w) := by
  obtain ⟨f0, f1, f2, f3⟩ := x
  dsimp only at hs hn
  have HS := Lib.hid hs
  clear hs
  go_enter Tryd.func105, Tryd.ntmps105
  go_wp2_with (go_at_call 132; refine (toIntS_c _ _ f3 _ _ (HS.out.below (by repeat (first | exact Below.refl _ _ | refine Below.drew ?_ | refine Below.alloc ?_ (by first | exact Nat.le_refl _ | (simp; done) | (simp; omega) | omega) _ | refine Below.more ?_ (by first | exact Nat.le_refl _ | (simp; done) | (simp; omega) | omega) _ _ | refine Below.setCell ?_ (by first | exact Nat.le_refl _ | (simp; done) | (simp; omega) | omega) _ | assumption))) hn).mono ?_; rintro e wn ⟨a', c', rfl, ho, hbn⟩; have HO := Lib.hid ho; clear ho; obtain ⟨X, nX, rfl⟩ := Below.ext hbn; clear hbn)
  refine bodyPost_ret (v := .agg ⟨NodeD.cells ⟨f0, f1, f2, f3⟩ a' c'⟩) (by simp [results, Tryd.results105, go_sem]) rfl ?_
  refine ⟨a', c', rfl, ?_, (by repeat (first | exact Below.refl _ _ | refine Below.drew ?_ | refine Below.alloc ?_ (by first | exact Nat.le_refl _ | (simp; done) | (simp; omega) | omega) _ | refine Below.more ?_ (by first | exact Nat.le_refl _ | (simp; done) | (simp; omega) | omega) _ _ | refine Below.setCell ?_ (by first | exact Nat.le_refl _ | (simp; done) | (simp; omega) | omega) _ | assumption))⟩
  exact (HO.out.move (Nat.le_refl _) (by simp)).wide (by simp; omega) (by simp)
theorem info_Node : (Tryd.prog.info? 156).map (fun i => (i.zero, i.size, i.bytes)) = some (some (.agg #[.int .i64 0, .string ByteArray.empty, .int .i64 0, .slice none 0 0]), 4, 56) := by kernel_rfl
set_option maxRecDepth 100000 in
theorem make_Node (n : Nat) (hn : n ≤ 1048576) (w : World) : ∃ arr : List Value, arr.length = n * 4 ∧ (Instr.makeSlice 60 (.int .i64 (n : Int)) (.int .i64 (n : Int))).run Tryd.prog w = .ok (.slice (some ⟨w.heap.size, 0, none⟩) n n) (w.alloc (.cells ⟨arr⟩ 156)) := by
  obtain ⟨i0, hi, hz0, hz1, hz2⟩ := info_parts info_Node
  have h := run_make w 60 156 i0 _ Tryd.underlying60 hi hz0 .i64 .i64 (n : Int) (n : Int) (by omega) (by omega) (by rw [hz2]; omega) (by omega)
  rw [h]
  simp only [Int.toNat_natCast, hz1]
  refine ⟨(madeCells _ (n * 4)).toList, ?_, rfl⟩
  rw [Array.length_toList, size_madeCells]
/-- Nodes of one's own come back. -/
def GivesNodes (w : World) (n : Nat) (l : List NodeD) (e : Ending) (w' : World) : Prop :=
  ∃ a cap, e = .returned (.slice a n cap) ∧ NsO w' w.heap.size w'.heap.size a n l ∧ Below w.heap.size w w' ∧ w.heap.size + 1 ≤ w'.heap.size
set_option maxRecDepth 100000 in
set_option maxHeartbeats 1000000 in
theorem toNodeS_c (a : Option Addr) (cap : Nat) (l : List NodeD) (n : Nat) (w : World) (hr : NsR w a n l) (hn : n ≤ 1048576) (hs : ∀ i, i < n → (NodeD.args l i).length ≤ 1048576) :
    Calls Tryd.prog 67 #[.slice a n cap] w (GivesNodes w n l) := by
  obtain ⟨arr0, ha0, hmk⟩ := make_Node n hn w
  obtain ⟨A, K, hr1, hr2⟩ := hr
  have HR := Lib.hid hr1
  have HR2 := Lib.hid hr2
  have HA := Lib.hid ha0
  have HS := Lib.hid hs
  clear hr1 hr2 ha0 hs
  go_enter Tryd.func67, Tryd.ntmps67
  go_wp2
  go_loopw [4] (fun i wr => ∃ (k : Nat) (arr : List Value) (X : Array Obj) (d : Nat) (A2 : Nat → Option Addr) (K2 : Nat → Nat), k ≤ n ∧ i = .int .i64 k ∧ Filled arr 4 n k (NodeD.at l A2 K2) ∧ wr = more (w.alloc (.cells ⟨arr⟩ 156)) X d ∧ Rows (more (w.alloc (.cells ⟨arr⟩ 156)) X d) (w.heap.size + 1) (w.heap.size + 1 + X.size) k A2 (NodeD.args l)) (fun i _ => n - (intOf i).toNat)
  case atStart => exact ⟨0, arr0, #[], _, fun _ => none, fun _ => 0, by omega, rfl, .start HA.out, more_self' _, Rows.zero (by simp)⟩
  case round =>
    obtain ⟨k, arr, X, d, A2, K2, hk, rfl, hf, rfl, hrows⟩ := hrel
    have HF := Lib.hid hf
    have HW := Lib.hid hrows
    clear hf hrows
    by_cases hlt : k < n
    · have hk1 : (k : Int) < (n : Int) := by omega
      obtain ⟨b, o, rfl, hb, hc⟩ := HR.out (by omega)
      have HC := Lib.hid hc
      clear hc
      have hrow := row_lt (s := 4) (Nat.lt_succ_self k) (show k + 1 ≤ n from hlt)
      have g0 : k * 4 < arr.length := by rw [HF.out.1]; omega
      have g1 : k * 4 + 1 < arr.length := by rw [HF.out.1]; omega
      have g2 : k * 4 + 2 < arr.length := by rw [HF.out.1]; omega
      have g3 : k * 4 + 3 < arr.length := by rw [HF.out.1]; omega
      have c0 : w.cell? ⟨b, o + k * 4, none⟩ = some (.int .i64 (l.getD k default).f0) := HC.out k hlt 0 (by omega)
      have c1 : w.cell? ⟨b, o + k * 4 + 1, none⟩ = some (.string (l.getD k default).f1) := HC.out k hlt 1 (by omega)
      have c2 : w.cell? ⟨b, o + k * 4 + 2, none⟩ = some (.int .i64 (l.getD k default).f2) := HC.out k hlt 2 (by omega)
      have c3 : w.cell? ⟨b, o + k * 4 + 3, none⟩ = some (.slice (A k) (l.getD k default).f3.length (K k)) := HC.out k hlt 3 (by omega)
      have hsl : Sl w (A k) 1 (l.getD k default).f3.length (intAt (l.getD k default).f3) := HR2.out k hlt
      have hsn : (l.getD k default).f3.length ≤ 1048576 := HS.out k hlt
      have hat : ∀ B J, NodeD.at l B J k = (l.getD k default).cells (B k) (J k) := fun _ _ => rfl
      have harg : NodeD.args l k = (l.getD k default).f3 := rfl
      generalize l.getD k default = x at *
      generalize A k = ak at *
      generalize K k = kk at *
      have HT := Lib.hid hat
      have HT2 := Lib.hid harg
      have HSL := Lib.hid hsl
      clear hat hrow harg hsl
      go_wp2_with (go_at_call 105; refine (toNode_c x ak kk _ (HSL.out.below (by repeat (first | exact Below.refl _ _ | refine Below.drew ?_ | refine Below.alloc ?_ (by first | exact Nat.le_refl _ | (simp; done) | (simp; omega) | omega) _ | refine Below.more ?_ (by first | exact Nat.le_refl _ | (simp; done) | (simp; omega) | omega) _ _ | refine Below.setCell ?_ (by first | exact Nat.le_refl _ | (simp; done) | (simp; omega) | omega) _ | assumption))) hsn).mono ?_; rintro e wn ⟨a', c', rfl, ho, hbn⟩; have HO := Lib.hid ho; clear ho; obtain ⟨Y, nX, rfl⟩ := Below.ext hbn; clear hbn)
      refine ⟨⟨k + 1, setRow arr (k * 4) (x.cells a' c'), X ++ Y, nX, upd A2 k a', upd K2 k c', by omega, by go_num, (HF.out.congr (fun i hi => ?_)).next hlt rfl (fun j _ => by rw [HT.out, upd_self, upd_self]), rfl, ?_⟩, by simp only [intOf]; omega⟩
      · unfold NodeD.at; rw [upd_lt hi, upd_lt hi]
      · have h1 := HO.out
        rw [more_more, ← HT2.out] at h1
        exact Rows.snoc ((HW.out.below (more_app (Y := Y) (d' := nX))).move (by simp) (by simp)) ((h1.move (by simp) (by simp)).wide (by simp [Nat.add_assoc]) (by simp [Nat.add_assoc])) (Nat.le_refl _) (by simp)
    · have hk' : k = n := by omega
      have HK := Lib.hid hk'
      clear hk'
      go_wp2
      go_ret
      have hff := HF.out
      have hww := HW.out
      rw [HK.out] at hff hww
      exact ⟨_, _, rfl, ⟨A2, K2, ow_new (e := 156) (by rw [heap_more _ (by simp), heap_alloc_new]) (Nat.le_refl _) (by omega) (by rw [hff.1]; exact Nat.le_refl _) hff.2, by simpa [Nat.add_assoc] using hww⟩, (by repeat (first | exact Below.refl _ _ | refine Below.drew ?_ | refine Below.alloc ?_ (by first | exact Nat.le_refl _ | (simp; done) | (simp; omega) | omega) _ | refine Below.more ?_ (by first | exact Nat.le_refl _ | (simp; done) | (simp; omega) | omega) _ _ | refine Below.setCell ?_ (by first | exact Nat.le_refl _ | (simp; done) | (simp; omega) | omega) _ | assumption)), by simp⟩
set_option maxRecDepth 100000 in
theorem eqNode_c (x : NodeD) (a a' : Option Addr) (c c' : Nat) (w : World) (hr : Sl w a 1 x.f3.length (intAt x.f3)) (hr' : Sl w a' 1 x.f3.length (intAt x.f3)) (hn : x.f3.length ≤ 1048576) :
    Calls Tryd.prog 114 #[.agg ⟨x.cells a c⟩, .agg ⟨x.cells a' c'⟩] w fun e w' => e = .returned (.bool true) ∧ Below w.heap.size w w' := by
  obtain ⟨f0, f1, f2, f3⟩ := x
  dsimp only at hr hr' hn
  have H1 := Lib.hid hr
  have H2 := Lib.hid hr'
  clear hr hr'
  go_enter Tryd.func114, Tryd.ntmps114
  go_wp2_with (go_at_call 135; refine (eqIntS_c _ _ _ _ f3 _ _ (H1.out.below (by repeat (first | exact Below.refl _ _ | refine Below.drew ?_ | refine Below.alloc ?_ (by first | exact Nat.le_refl _ | (simp; done) | (simp; omega) | omega) _ | refine Below.more ?_ (by first | exact Nat.le_refl _ | (simp; done) | (simp; omega) | omega) _ _ | refine Below.setCell ?_ (by first | exact Nat.le_refl _ | (simp; done) | (simp; omega) | omega) _ | assumption))) (H2.out.below (by repeat (first | exact Below.refl _ _ | refine Below.drew ?_ | refine Below.alloc ?_ (by first | exact Nat.le_refl _ | (simp; done) | (simp; omega) | omega) _ | refine Below.more ?_ (by first | exact Nat.le_refl _ | (simp; done) | (simp; omega) | omega) _ _ | refine Below.setCell ?_ (by first | exact Nat.le_refl _ | (simp; done) | (simp; omega) | omega) _ | assumption))) (by omega)).mono ?_; rintro e wn ⟨rfl, hbn⟩; obtain ⟨X, nX, rfl⟩ := Below.ext hbn; clear hbn)
  all_goals (go_ret; exact ⟨rfl, (by repeat (first | exact Below.refl _ _ | refine Below.drew ?_ | refine Below.alloc ?_ (by first | exact Nat.le_refl _ | (simp; done) | (simp; omega) | omega) _ | refine Below.more ?_ (by first | exact Nat.le_refl _ | (simp; done) | (simp; omega) | omega) _ _ | refine Below.setCell ?_ (by first | exact Nat.le_refl _ | (simp; done) | (simp; omega) | omega) _ | assumption))⟩)
set_option maxRecDepth 100000 in
set_option maxHeartbeats 1000000 in
theorem eqNodeS_c (a a' : Option Addr) (cap cap' : Nat) (l : List NodeD) (n : Nat) (w : World) (hr : NsR w a n l) (hr' : NsR w a' n l) (hn : n ≤ 1048576) (hs : ∀ i, i < n → (NodeD.args l i).length ≤ 1048576) :
    Calls Tryd.prog 73 #[.slice a n cap, .slice a' n cap'] w fun e w' => e = .returned (.bool true) ∧ Below w.heap.size w w' := by
  obtain ⟨A, K, hr1, hr2⟩ := hr
  obtain ⟨A', K', hr1', hr2'⟩ := hr'
  have HR := Lib.hid hr1
  have HR2 := Lib.hid hr2
  have HR' := Lib.hid hr1'
  have HR2' := Lib.hid hr2'
  have HS := Lib.hid hs
  clear hr1 hr1' hr2 hr2' hs
  go_enter Tryd.func73, Tryd.ntmps73
  go_wp2
  go_loopw [5] (fun i wr => ∃ (k d : Nat) (X : Array Obj), k ≤ n ∧ i = .int .i64 k ∧ wr = more w X d) (fun i _ => n - (intOf i).toNat)
  case atStart => exact ⟨0, _, #[], by omega, rfl, more_self' w⟩
  case round =>
    obtain ⟨k, d, X0, hk, rfl, rfl⟩ := hrel
    by_cases hlt : k < n
    · have hk1 : (k : Int) < (n : Int) := by omega
      have hk0 : (0 : Int) ≤ (k : Int) := by omega
      obtain ⟨b, o, rfl, hb, hc⟩ := HR.out (by omega)
      have HC := Lib.hid hc
      clear hc
      obtain ⟨b', o', rfl, hb', hc'⟩ := HR'.out (by omega)
      have HC2 := Lib.hid hc'
      clear hc'
      have c0 : w.cell? ⟨b, o + k * 4, none⟩ = some (.int .i64 (l.getD k default).f0) := HC.out k hlt 0 (by omega)
      have c1 : w.cell? ⟨b, o + k * 4 + 1, none⟩ = some (.string (l.getD k default).f1) := HC.out k hlt 1 (by omega)
      have c2 : w.cell? ⟨b, o + k * 4 + 2, none⟩ = some (.int .i64 (l.getD k default).f2) := HC.out k hlt 2 (by omega)
      have c3 : w.cell? ⟨b, o + k * 4 + 3, none⟩ = some (.slice (A k) (l.getD k default).f3.length (K k)) := HC.out k hlt 3 (by omega)
      have e0 : w.cell? ⟨b', o' + k * 4, none⟩ = some (.int .i64 (l.getD k default).f0) := HC2.out k hlt 0 (by omega)
      have e1 : w.cell? ⟨b', o' + k * 4 + 1, none⟩ = some (.string (l.getD k default).f1) := HC2.out k hlt 1 (by omega)
      have e2 : w.cell? ⟨b', o' + k * 4 + 2, none⟩ = some (.int .i64 (l.getD k default).f2) := HC2.out k hlt 2 (by omega)
      have e3 : w.cell? ⟨b', o' + k * 4 + 3, none⟩ = some (.slice (A' k) (l.getD k default).f3.length (K' k)) := HC2.out k hlt 3 (by omega)
      have hsl : Sl w (A k) 1 (l.getD k default).f3.length (intAt (l.getD k default).f3) := HR2.out k hlt
      have hsl' : Sl w (A' k) 1 (l.getD k default).f3.length (intAt (l.getD k default).f3) := HR2'.out k hlt
      have hsn : (l.getD k default).f3.length ≤ 1048576 := HS.out k hlt
      generalize l.getD k default = x at *
      generalize A k = ak at *
      generalize K k = kk at *
      generalize A' k = ak' at *
      generalize K' k = kk' at *
      have HSL := Lib.hid hsl
      have HSL' := Lib.hid hsl'
      clear hsl hsl'
      go_wp2
      (first | refine region_q2 (by kernel_rfl) (by kernel_rfl) ?_ | refine region_q (by kernel_rfl) (by kernel_rfl) ?_)
      repeat (quiet_step (fail))
      (refine wpQuiet_step (fun K hK => ?_); go_simp; refine ⟨_, fun zt => ext_below (eqNode_c x _ _ _ _ _ (HSL.out.more _ _) (HSL'.out.more _ _) hsn), hK _ ?_⟩; clear hK K)
      repeat (quiet_step (fail))
      (refine wpQuiet_nil ?_; intro X nX)
      go_wp2
      go_roundw
      case rel => exact ⟨k + 1, _, _, by omega, by go_num, rfl⟩
      case measure => simp [intOf]; omega
    · go_wp2
      go_ret
      exact ⟨rfl, (by repeat (first | exact Below.refl _ _ | refine Below.drew ?_ | refine Below.alloc ?_ (by first | exact Nat.le_refl _ | (simp; done) | (simp; omega) | omega) _ | refine Below.more ?_ (by first | exact Nat.le_refl _ | (simp; done) | (simp; omega) | omega) _ _ | refine Below.setCell ?_ (by first | exact Nat.le_refl _ | (simp; done) | (simp; omega) | omega) _ | assumption))⟩
/-- What is left behind a node's lengths. -/
def NodeD.Left1 (x : NodeD) (left : Int) (w : World) (e : Ending) (w' : World) : Prop :=
  ∃ r : Int, e = .returned (.int .i64 r) ∧ Below w.heap.size w w' ∧ (r = -1 ∨ (0 ≤ r ∧ r ≤ left ∧ x.f1.size ≤ 1048576 ∧ x.f3.length ≤ 1048576))
set_option maxRecDepth 100000 in
theorem szNode_c (x : NodeD) (a : Option Addr) (c : Nat) (left : Int) (w : World) (h0 : 0 ≤ left) (h1 : left ≤ 1048576) (hs : x.f1.size ≤ 9223372036854775807) (hl : x.f3.length ≤ 9223372036854775807) :
    Calls Tryd.prog 100 #[.agg ⟨x.cells a c⟩, .int .i64 left] w (x.Left1 left w) := by
  obtain ⟨f0, f1, f2, f3⟩ := x
  dsimp only at hs hl
  by_cases hlt : left - f1.size < 0
  · go_enter Tryd.func100, Tryd.ntmps100
    go_wp2
    go_ret
    exact ⟨-1, rfl, (by repeat (first | exact Below.refl _ _ | refine Below.drew ?_ | refine Below.alloc ?_ (by first | exact Nat.le_refl _ | (simp; done) | (simp; omega) | omega) _ | refine Below.more ?_ (by first | exact Nat.le_refl _ | (simp; done) | (simp; omega) | omega) _ _ | refine Below.setCell ?_ (by first | exact Nat.le_refl _ | (simp; done) | (simp; omega) | omega) _ | assumption)), .inl rfl⟩
  · have hl0 : 0 ≤ left - f1.size := by omega
    by_cases hlt2 : left - f1.size - f3.length < 0
    · have hst : Int.szI (left - f1.size) f3.length = -1 := by unfold Int.szI; rw [if_pos hlt2]
      have HST := Lib.hid hst
      clear hst
      go_enter Tryd.func100, Tryd.ntmps100
      go_wp2_with (go_at_call 131; refine (szIntS_c _ _ _ _ _ (by omega) (by omega) hl).mono ?_; rintro e w' ⟨rfl, rfl⟩; rw [HST.out])
      go_ret
      exact ⟨-1, rfl, (by repeat (first | exact Below.refl _ _ | refine Below.drew ?_ | refine Below.alloc ?_ (by first | exact Nat.le_refl _ | (simp; done) | (simp; omega) | omega) _ | refine Below.more ?_ (by first | exact Nat.le_refl _ | (simp; done) | (simp; omega) | omega) _ _ | refine Below.setCell ?_ (by first | exact Nat.le_refl _ | (simp; done) | (simp; omega) | omega) _ | assumption)), .inl rfl⟩
    · have hl1 : 0 ≤ left - f1.size - f3.length := by omega
      have hst : Int.szI (left - f1.size) f3.length = left - f1.size - f3.length := by unfold Int.szI; rw [if_neg hlt2]
      have HST := Lib.hid hst
      clear hst
      go_enter Tryd.func100, Tryd.ntmps100
      go_wp2_with (go_at_call 131; refine (szIntS_c _ _ _ _ _ (by omega) (by omega) hl).mono ?_; rintro e w' ⟨rfl, rfl⟩; rw [HST.out])
      go_ret
      exact ⟨_, rfl, (by repeat (first | exact Below.refl _ _ | refine Below.drew ?_ | refine Below.alloc ?_ (by first | exact Nat.le_refl _ | (simp; done) | (simp; omega) | omega) _ | refine Below.more ?_ (by first | exact Nat.le_refl _ | (simp; done) | (simp; omega) | omega) _ _ | refine Below.setCell ?_ (by first | exact Nat.le_refl _ | (simp; done) | (simp; omega) | omega) _ | assumption)), .inr ⟨hl1, by omega, by dsimp only; omega, by dsimp only; omega⟩⟩
/-- What is left behind a slice's lengths. -/
def NodeD.Left (l : List NodeD) (n : Nat) (left : Int) (w : World) (e : Ending) (w' : World) : Prop :=
  ∃ r : Int, e = .returned (.int .i64 r) ∧ Below w.heap.size w w' ∧ (r = -1 ∨ (0 ≤ r ∧ r ≤ left - n ∧ ∀ i, i < n → (l.getD i default).f1.size ≤ 1048576 ∧ (l.getD i default).f3.length ≤ 1048576))
set_option maxRecDepth 100000 in
set_option maxHeartbeats 1000000 in
theorem szNodeS_c (a : Option Addr) (cap : Nat) (l : List NodeD) (n : Nat) (left : Int) (w : World) (hr : NsR w a n l) (h0 : 0 ≤ left) (h1 : left ≤ 1048576) (hnm : n ≤ 9223372036854775807) (hsm : ∀ i, i < n → (l.getD i default).f1.size ≤ 9223372036854775807 ∧ (l.getD i default).f3.length ≤ 9223372036854775807) :
    Calls Tryd.prog 63 #[.slice a n cap, .int .i64 left] w (NodeD.Left l n left w) := by
  obtain ⟨A, K, hr, hr2⟩ := hr
  clear hr2
  have HR := Lib.hid hr
  have HS := Lib.hid hsm
  clear hr hsm
  by_cases hlt : left - n < 0
  · go_enter Tryd.func63, Tryd.ntmps63
    go_wp2
    go_ret
    exact ⟨-1, rfl, (by repeat (first | exact Below.refl _ _ | refine Below.drew ?_ | refine Below.alloc ?_ (by first | exact Nat.le_refl _ | (simp; done) | (simp; omega) | omega) _ | refine Below.more ?_ (by first | exact Nat.le_refl _ | (simp; done) | (simp; omega) | omega) _ _ | refine Below.setCell ?_ (by first | exact Nat.le_refl _ | (simp; done) | (simp; omega) | omega) _ | assumption)), .inl rfl⟩
  · have hln : (n : Int) ≤ left := by omega
    clear hlt
    go_enter Tryd.func63, Tryd.ntmps63
    go_wp2
    go_loopw [1, 5] (fun m i wr => ∃ (k d : Nat) (X : Array Obj) (r : Int), k ≤ n ∧ i = .int .i64 k ∧ m = .int .i64 r ∧ 0 ≤ r ∧ r ≤ left - n ∧ (∀ i, i < k → (l.getD i default).f1.size ≤ 1048576 ∧ (l.getD i default).f3.length ≤ 1048576) ∧ wr = more w X d) (fun _ i _ => n - (intOf i).toNat)
    case atStart => exact ⟨0, _, #[], left - n, by omega, rfl, rfl, by omega, by omega, fun i hi => by omega, more_self' w⟩
    case round =>
      obtain ⟨k, d, X0, r, hk, rfl, rfl, hr0, hr1, hss, rfl⟩ := hrel
      have H4 := Lib.hid hss
      clear hss
      by_cases hlt : k < n
      · have hk1 : (k : Int) < (n : Int) := by omega
        have hk0 : (0 : Int) ≤ (k : Int) := by omega
        have hsx := (HS.out k hlt).1
        have hsl := (HS.out k hlt).2
        have hgx : (l.getD k default).f1.size ≤ 1048576 → (l.getD k default).f3.length ≤ 1048576 → (∀ i, i < k + 1 → (l.getD i default).f1.size ≤ 1048576 ∧ (l.getD i default).f3.length ≤ 1048576) := by
          intro q1 q2 i hi
          by_cases hik : i = k
          · subst hik; exact ⟨q1, q2⟩
          · exact H4.out i (by omega)
        have HGX := Lib.hid hgx
        clear hgx
        obtain ⟨b, o, rfl, hb, hc⟩ := HR.out (by omega)
        have HC := Lib.hid hc
        clear hc
        have c0 : w.cell? ⟨b, o + k * 4, none⟩ = some (.int .i64 (l.getD k default).f0) := HC.out k hlt 0 (by omega)
        have c1 : w.cell? ⟨b, o + k * 4 + 1, none⟩ = some (.string (l.getD k default).f1) := HC.out k hlt 1 (by omega)
        have c2 : w.cell? ⟨b, o + k * 4 + 2, none⟩ = some (.int .i64 (l.getD k default).f2) := HC.out k hlt 2 (by omega)
        have c3 : w.cell? ⟨b, o + k * 4 + 3, none⟩ = some (.slice (A k) (l.getD k default).f3.length (K k)) := HC.out k hlt 3 (by omega)
        generalize hxx : l.getD k default = x at *
        have HXX := Lib.hid hxx
        clear hxx
        go_wp2_with fail
        refine (szNode_c x _ _ r _ hr0 (by omega) hsx hsl).mono ?_
        rintro e wn ⟨r', rfl, hbn, hr'⟩
        obtain ⟨Y, nX, rfl⟩ := Below.ext hbn
        clear hbn
        rcases hr' with rfl | ⟨q0, q1, q2, q3⟩
        · go_wp2
          go_ret
          exact ⟨-1, rfl, (by repeat (first | exact Below.refl _ _ | refine Below.drew ?_ | refine Below.alloc ?_ (by first | exact Nat.le_refl _ | (simp; done) | (simp; omega) | omega) _ | refine Below.more ?_ (by first | exact Nat.le_refl _ | (simp; done) | (simp; omega) | omega) _ _ | refine Below.setCell ?_ (by first | exact Nat.le_refl _ | (simp; done) | (simp; omega) | omega) _ | assumption)), .inl rfl⟩
        · go_wp2
          go_roundw
          case rel => exact ⟨k + 1, _, _, r', by omega, by go_num, rfl, by omega, by omega, HGX.out q2 q3, rfl⟩
          case measure => simp [intOf]; omega
      · have hk' : k = n := by omega
        have HK := Lib.hid hk'
        clear hk'
        go_wp2
        go_ret
        have hss := H4.out
        rw [HK.out] at hss
        exact ⟨r, rfl, (by repeat (first | exact Below.refl _ _ | refine Below.drew ?_ | refine Below.alloc ?_ (by first | exact Nat.le_refl _ | (simp; done) | (simp; omega) | omega) _ | refine Below.more ?_ (by first | exact Nat.le_refl _ | (simp; done) | (simp; omega) | omega) _ _ | refine Below.setCell ?_ (by first | exact Nat.le_refl _ | (simp; done) | (simp; omega) | omega) _ | assumption)), .inr ⟨hr0, hr1, hss⟩⟩
end Go.Proofs.YtdkjiafdfenbkaaDoor
