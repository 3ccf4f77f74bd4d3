/- Contracts of what the laws do with programs. -/
import Derived.Test.YtdkjiafdfenbkaaDoorNodes
import Derived.Test.YtdkjiafdfenbkaaDoorSAssignment
import Derived.Test.YtdkjiafdfenbkaaDoorOpen
namespace Go.Proofs.YtdkjiafdfenbkaaDoor
open Go.RowKit
structure ProgD where
  nodes : List NodeD
  asg : List AssignmentD
  nN : Nat
  nA : Nat
  hN : nodes.length = nN
  hA : asg.length = nA
/-- v reads as the program p. -/
def ProgramR (w : World) (v : Value) (p : ProgD) : Prop :=
  ∃ a c a' c', v = .agg #[.slice a p.nN c, .slice a' p.nA c'] ∧ NsR w a p.nN p.nodes ∧ Sl w a' 2 p.nA (AssignmentD.at p.asg)
/-- .. in blocks of one's own. -/
def ProgramO (w : World) (lo hi : Nat) (v : Value) (p : ProgD) : Prop :=
  ∃ l1 mid a c a' c', v = .agg #[.slice a p.nN c, .slice a' p.nA c'] ∧ lo ≤ l1 ∧ l1 + 1 ≤ mid ∧ mid ≤ hi ∧ NsO w l1 mid a p.nN p.nodes ∧ Ow w mid hi a' 2 p.nA (AssignmentD.at p.asg)
theorem ProgramR.below {w w' : World} {v : Value} {p : ProgD} (h : ProgramR w v p) (b : Below w.heap.size w w') : ProgramR w' v p := by
  obtain ⟨a, c, a', c', e, h1, h2⟩ := h
  exact ⟨a, c, a', c', e, h1.below b, h2.below b⟩
theorem ProgramO.r {w : World} {lo hi : Nat} {v : Value} {p : ProgD} (h : ProgramO w lo hi v p) : ProgramR w v p := by
  obtain ⟨l1, mid, a, c, a', c', e, _, _, _, h1, h2⟩ := h
  exact ⟨a, c, a', c', e, h1.r, h2.sl⟩
theorem ProgramO.chg {w w' : World} {lo hi lo' hi' : Nat} {v : Value} {p : ProgD} (h : ProgramO w lo hi v p) (k : Chg lo' hi' w w') (hd : hi ≤ lo' ∨ hi' ≤ lo) : ProgramO w' lo hi v p := by
  obtain ⟨l1, mid, a, c, a', c', e, k1, k2, k3, h1, h2⟩ := h
  exact ⟨l1, mid, a, c, a', c', e, k1, k2, k3, h1.chg k (by omega) k2, h2.chg k (by omega)⟩
theorem ProgramO.below {w w' : World} {lo hi : Nat} {v : Value} {p : ProgD} (h : ProgramO w lo hi v p) (b : Below w.heap.size w w') : ProgramO w' lo hi v p :=
  h.chg (Chg.of_below (lo := hi) (hi := hi) b) (.inl (Nat.le_refl _))
theorem ProgramO.wide {w : World} {lo hi lo' hi' : Nat} {v : Value} {p : ProgD} (h : ProgramO w lo hi v p) (h1 : lo' ≤ lo) (h2 : hi ≤ hi') : ProgramO w lo' hi' v p := by
  obtain ⟨l1, mid, a, c, a', c', e, k1, k2, k3, k4, k5⟩ := h
  exact ⟨l1, mid, a, c, a', c', e, by omega, k2, by omega, k4, k5.wide (Nat.le_refl _) h2⟩
/-- The lengths are within bounds. -/
def ProgramSz (B : Nat) (p : ProgD) : Prop :=
  p.nN ≤ B ∧ p.nA ≤ B ∧ (∀ i, i < p.nN → (p.nodes.getD i default).f1.size ≤ B ∧ (p.nodes.getD i default).f3.length ≤ B) ∧ ∀ i, i < p.nA → (p.asg.getD i default).f0.size ≤ B
def GivesProgram (w : World) (p : ProgD) (e : Ending) (w' : World) : Prop :=
  ∃ v, e = .returned v ∧ ProgramO w' w.heap.size w'.heap.size v p ∧ Below w.heap.size w w'
set_option maxRecDepth 100000 in
theorem toProgram_c (v : Value) (p : ProgD) (w : World) (hr : ProgramR w v p) (hs : ProgramSz 1048576 p) :
    Calls Tryd.prog 32 #[v] w (GivesProgram w p) := by
  obtain ⟨a, c, a', c', rfl, h1, h2⟩ := hr
  obtain ⟨hs1, hs2, hs3, hs4⟩ := hs
  have H1 := Lib.hid h1
  have H2 := Lib.hid h2
  have H3 := Lib.hid hs3
  clear h1 h2 hs3 hs4
  go_enter Tryd.func32, Tryd.ntmps32
  go_wp2_with fail
  refine (toNodeS_c _ _ _ _ _ (H1.out.below (by repeat (first | exact Below.refl _ _ | refine Below.drew ?_ | refine Below.alloc ?_ (by first | exact Nat.le_refl _ | (simp; done) | (simp; omega) | omega) _ | refine Below.more ?_ (by first | exact Nat.le_refl _ | (simp; done) | (simp; omega) | omega) _ _ | refine Below.setCell ?_ (by first | exact Nat.le_refl _ | (simp; done) | (simp; omega) | omega) _ | assumption))) hs1 (fun i hi => (H3.out i hi).2)).mono ?_
  rintro e w1 ⟨a2, c2, rfl, ho, hb, hz⟩
  have HO := Lib.hid ho
  clear ho
  obtain ⟨X, d, rfl⟩ := Below.ext hb
  clear hb
  go_wp2_with fail
  refine (toAssignmentS_c _ _ _ _ _ (H2.out.below (by repeat (first | exact Below.refl _ _ | refine Below.drew ?_ | refine Below.alloc ?_ (by first | exact Nat.le_refl _ | (simp; done) | (simp; omega) | omega) _ | refine Below.more ?_ (by first | exact Nat.le_refl _ | (simp; done) | (simp; omega) | omega) _ _ | refine Below.setCell ?_ (by first | exact Nat.le_refl _ | (simp; done) | (simp; omega) | omega) _ | assumption))) hs2).mono ?_
  rintro e w1 ⟨a3, c3, rfl, ho3, hb⟩
  have HO3 := Lib.hid ho3
  clear ho3
  obtain ⟨Y, d', rfl⟩ := Below.ext hb
  have HB := Lib.hid hb
  clear hb
  go_wp2
  refine bodyPost_ret (v := .agg #[.slice a2 p.nN c2, .slice a3 p.nA c3]) (by simp [results, Tryd.results32, go_sem]) rfl ?_
  refine ⟨_, rfl, ?_, (by repeat (first | exact Below.refl _ _ | refine Below.drew ?_ | refine Below.alloc ?_ (by first | exact Nat.le_refl _ | (simp; done) | (simp; omega) | omega) _ | refine Below.more ?_ (by first | exact Nat.le_refl _ | (simp; done) | (simp; omega) | omega) _ _ | refine Below.setCell ?_ (by first | exact Nat.le_refl _ | (simp; done) | (simp; omega) | omega) _ | assumption))⟩
  have o3 := HO3.out
  rw [more_more] at o3
  refine ⟨_, _, a2, c2, a3, c3, rfl, ?_, hz, ?_, ((HO.out.below (more_app (Y := Y) (d' := d'))).move (by simp) (by simp)), (o3.move (by simp) (by simp)).wide ?_ ?_⟩
  all_goals (simp; try omega)
set_option maxRecDepth 100000 in
theorem eqProgram_c (v v' : Value) (p : ProgD) (w : World) (hr : ProgramR w v p) (hr' : ProgramR w v' p) (hs : ProgramSz 1048576 p) :
    Calls Tryd.prog 34 #[v, v'] w fun e w' => e = .returned (.bool true) ∧ Below w.heap.size w w' := by
  obtain ⟨a, c, a', c', rfl, h1, h2⟩ := hr
  obtain ⟨b, d, b', d', rfl, h1', h2'⟩ := hr'
  obtain ⟨hs1, hs2, hs3, hs4⟩ := hs
  have H1 := Lib.hid h1
  have H2 := Lib.hid h2
  have H1' := Lib.hid h1'
  have H2' := Lib.hid h2'
  have H3 := Lib.hid hs3
  clear h1 h2 h1' h2' hs3 hs4
  go_enter Tryd.func34, Tryd.ntmps34
  go_wp2_with (first | (go_at_call 73; refine (eqNodeS_c _ _ _ _ _ _ _ (H1.out.below (by repeat (first | exact Below.refl _ _ | refine Below.drew ?_ | refine Below.alloc ?_ (by first | exact Nat.le_refl _ | (simp; done) | (simp; omega) | omega) _ | refine Below.more ?_ (by first | exact Nat.le_refl _ | (simp; done) | (simp; omega) | omega) _ _ | refine Below.setCell ?_ (by first | exact Nat.le_refl _ | (simp; done) | (simp; omega) | omega) _ | assumption))) (H1'.out.below (by repeat (first | exact Below.refl _ _ | refine Below.drew ?_ | refine Below.alloc ?_ (by first | exact Nat.le_refl _ | (simp; done) | (simp; omega) | omega) _ | refine Below.more ?_ (by first | exact Nat.le_refl _ | (simp; done) | (simp; omega) | omega) _ _ | refine Below.setCell ?_ (by first | exact Nat.le_refl _ | (simp; done) | (simp; omega) | omega) _ | assumption))) hs1 (fun i hi => (H3.out i hi).2)).mono ?_; rintro e wn ⟨rfl, hbn⟩; obtain ⟨X, nX, rfl⟩ := Below.ext hbn; clear hbn) | (go_at_call 74; refine (eqAssignmentS_c _ _ _ _ _ _ _ (H2.out.below (by repeat (first | exact Below.refl _ _ | refine Below.drew ?_ | refine Below.alloc ?_ (by first | exact Nat.le_refl _ | (simp; done) | (simp; omega) | omega) _ | refine Below.more ?_ (by first | exact Nat.le_refl _ | (simp; done) | (simp; omega) | omega) _ _ | refine Below.setCell ?_ (by first | exact Nat.le_refl _ | (simp; done) | (simp; omega) | omega) _ | assumption))) (H2'.out.below (by repeat (first | exact Below.refl _ _ | refine Below.drew ?_ | refine Below.alloc ?_ (by first | exact Nat.le_refl _ | (simp; done) | (simp; omega) | omega) _ | refine Below.more ?_ (by first | exact Nat.le_refl _ | (simp; done) | (simp; omega) | omega) _ _ | refine Below.setCell ?_ (by first | exact Nat.le_refl _ | (simp; done) | (simp; omega) | omega) _ | assumption))) (by omega)).mono ?_; rintro e wn ⟨rfl, hbn⟩; obtain ⟨X, nX, rfl⟩ := Below.ext hbn; clear hbn))
  all_goals (go_ret; exact ⟨rfl, (by repeat (first | exact Below.refl _ _ | refine Below.drew ?_ | refine Below.alloc ?_ (by first | exact Nat.le_refl _ | (simp; done) | (simp; omega) | omega) _ | refine Below.more ?_ (by first | exact Nat.le_refl _ | (simp; done) | (simp; omega) | omega) _ _ | refine Below.setCell ?_ (by first | exact Nat.le_refl _ | (simp; done) | (simp; omega) | omega) _ | assumption))⟩)
def ProgD.Left (p : ProgD) (left : Int) (w : World) (e : Ending) (w' : World) : Prop :=
  ∃ r : Int, e = .returned (.int .i64 r) ∧ Below w.heap.size w w' ∧ (r = -1 ∨ (0 ≤ r ∧ r ≤ left ∧ ProgramSz 1048576 p))
set_option maxRecDepth 100000 in
theorem szProgram_c (v : Value) (p : ProgD) (left : Int) (w : World) (hr : ProgramR w v p) (h0 : 0 ≤ left) (h1 : left ≤ 1048576) (hs : ProgramSz 9223372036854775807 p) :
    Calls Tryd.prog 30 #[v, .int .i64 left] w (p.Left left w) := by
  obtain ⟨a, c, a', c', rfl, hr1, hr2⟩ := hr
  obtain ⟨hs1, hs2, hs3, hs4⟩ := hs
  have H1 := Lib.hid hr1
  have H2 := Lib.hid hr2
  have H3 := Lib.hid hs3
  have H4 := Lib.hid hs4
  clear hr1 hr2 hs3 hs4
  go_enter Tryd.func30, Tryd.ntmps30
  go_wp2_with fail
  refine (szNodeS_c _ _ _ _ left _ (H1.out.below (by repeat (first | exact Below.refl _ _ | refine Below.drew ?_ | refine Below.alloc ?_ (by first | exact Nat.le_refl _ | (simp; done) | (simp; omega) | omega) _ | refine Below.more ?_ (by first | exact Nat.le_refl _ | (simp; done) | (simp; omega) | omega) _ _ | refine Below.setCell ?_ (by first | exact Nat.le_refl _ | (simp; done) | (simp; omega) | omega) _ | assumption))) h0 h1 hs1 H3.out).mono ?_
  rintro e wn ⟨r, rfl, hbn, hr⟩
  obtain ⟨X, nX, rfl⟩ := Below.ext hbn
  clear hbn
  rcases hr with rfl | ⟨q0, q1, q2⟩
  · go_wp2
    go_ret
    exact ⟨-1, rfl, (by repeat (first | exact Below.refl _ _ | refine Below.drew ?_ | refine Below.alloc ?_ (by first | exact Nat.le_refl _ | (simp; done) | (simp; omega) | omega) _ | refine Below.more ?_ (by first | exact Nat.le_refl _ | (simp; done) | (simp; omega) | omega) _ _ | refine Below.setCell ?_ (by first | exact Nat.le_refl _ | (simp; done) | (simp; omega) | omega) _ | assumption)), .inl rfl⟩
  · have HQ := Lib.hid q2
    clear q2
    go_wp2_with fail
    refine (szAssignmentS_c _ _ _ _ r _ (H2.out.below (by repeat (first | exact Below.refl _ _ | refine Below.drew ?_ | refine Below.alloc ?_ (by first | exact Nat.le_refl _ | (simp; done) | (simp; omega) | omega) _ | refine Below.more ?_ (by first | exact Nat.le_refl _ | (simp; done) | (simp; omega) | omega) _ _ | refine Below.setCell ?_ (by first | exact Nat.le_refl _ | (simp; done) | (simp; omega) | omega) _ | assumption))) q0 (by omega) hs2 H4.out).mono ?_
    rintro e wn ⟨r', rfl, hbn, hr⟩
    obtain ⟨Y, nY, rfl⟩ := Below.ext hbn
    clear hbn
    rcases hr with rfl | ⟨t0, t1, t2⟩
    · go_wp2
      go_ret
      exact ⟨-1, rfl, (by repeat (first | exact Below.refl _ _ | refine Below.drew ?_ | refine Below.alloc ?_ (by first | exact Nat.le_refl _ | (simp; done) | (simp; omega) | omega) _ | refine Below.more ?_ (by first | exact Nat.le_refl _ | (simp; done) | (simp; omega) | omega) _ _ | refine Below.setCell ?_ (by first | exact Nat.le_refl _ | (simp; done) | (simp; omega) | omega) _ | assumption)), .inl rfl⟩
    · have HT := Lib.hid t2
      clear t2
      go_wp2
      go_ret
      exact ⟨r', rfl, (by repeat (first | exact Below.refl _ _ | refine Below.drew ?_ | refine Below.alloc ?_ (by first | exact Nat.le_refl _ | (simp; done) | (simp; omega) | omega) _ | refine Below.more ?_ (by first | exact Nat.le_refl _ | (simp; done) | (simp; omega) | omega) _ _ | refine Below.setCell ?_ (by first | exact Nat.le_refl _ | (simp; done) | (simp; omega) | omega) _ | assumption)), .inr ⟨t0, by omega, by omega, by omega, HQ.out, HT.out⟩⟩
set_option maxRecDepth 100000 in
theorem open_Program {H : Type} {enc : TypeId × Value → H} {W : World} {v : Value} {d : DataW H} {p : List MemPlace} {base : Nat} (k : Value.okWide Tryd.prog W .any base 57 v) (h : DataW.Trod enc Tryd.prog W 0 (fun _ => true) true 57 v d p) :
    ∃ q : ProgD, Hid (ProgramR W v q) ∧ ProgramSz 9223372036854775807 q := by
  obtain ⟨cs, rfl, hl, _⟩ := open_flat [54, 55] Tryd.underlying57 (by kernel_rfl) (by kernel_rfl) k
  match cs, hl with
  | [u0, u1], _ =>
    obtain ⟨fuel, hf⟩ := h
    obtain ⟨v0, m0, y0, e0, ht0⟩ := trod_leaf 4 _ _ _ _ 0 54 hf (by decide +kernel)
    obtain ⟨v1, m1, y1, e1, ht1⟩ := trod_leaf 4 _ _ _ _ 1 55 hf (by decide +kernel)
    obtain rfl : u0 = v0 := by simpa [Value.cells] using e0
    obtain rfl : u1 = v1 := by simpa [Value.cells] using e1
    obtain ⟨a, n, cap, rfl, hn, hx⟩ := trod_recs (e := 153) (s := 4) (d := 4) (ts := [3, 9, 3, 68]) Tryd.underlying54 (by kernel_rfl) (by decide) (by decide +kernel) rfl ht0
    obtain ⟨a', n', cap', rfl, hn', hx'⟩ := trod_recs (e := 155) (s := 2) (d := 4) (ts := [9, 3]) Tryd.underlying55 (by kernel_rfl) (by decide) (by decide +kernel) rfl ht1
    unfold maxLen at hn hn'
    have hN : ∃ l : List NodeD, l.length = n ∧ NsR W a n l ∧ ∀ i, i < n → (l.getD i default).f1.size ≤ 9223372036854775807 ∧ (l.getD i default).f3.length ≤ 9223372036854775807 := by
      by_cases h0 : n = 0
      · subst h0
        exact ⟨[], rfl, ⟨fun _ => none, fun _ => 0, Sl.none, fun i hi => absurd hi (Nat.not_lt_zero i)⟩, fun i hi => absurd hi (Nat.not_lt_zero i)⟩
      · obtain ⟨b, o, rfl, hb, hc⟩ := hx (by omega)
        have one : ∀ i, i < n → ∃ (x : NodeD) (aa : Option Addr) (cc : Nat), (∀ j, j < 4 → W.cell? ⟨b, o + i * 4 + j, none⟩ = (x.cells aa cc)[j]?) ∧ Sl W aa 1 x.f3.length (intAt x.f3) ∧ x.f1.size ≤ 9223372036854775807 ∧ x.f3.length ≤ 9223372036854775807 := by
          intro i hi
          obtain ⟨c0, _, _, hc0, k0⟩ := hc i hi 0 (by decide)
          obtain ⟨c1, _, _, hc1, k1⟩ := hc i hi 1 (by decide)
          obtain ⟨c2, _, _, hc2, k2⟩ := hc i hi 2 (by decide)
          obtain ⟨c3, _, _, hc3, k3⟩ := hc i hi 3 (by decide)
          obtain ⟨z0, q0, _, _⟩ := DataW.trod_int Tryd.underlying3 k0
          obtain rfl : c0 = .int .i64 z0 := by simpa using q0
          obtain ⟨z1, q1, _, hz1⟩ := DataW.trod_string Tryd.underlying9 k1
          obtain rfl : c1 = .string z1 := by simpa using q1
          obtain ⟨z2, q2, _, _⟩ := DataW.trod_int Tryd.underlying3 k2
          obtain rfl : c2 = .int .i64 z2 := by simpa using q2
          obtain ⟨a3, n3, cap3, rfl, hn3, hx3⟩ := trod_recs (e := 3) (s := 1) (d := 4) (ts := [3]) Tryd.underlying68 (by kernel_rfl) (by decide) (by decide +kernel) rfl k3
          unfold maxLen at hz1 hn3
          have hl : ∃ l : List Int, l.length = n3 ∧ Sl W a3 1 n3 (intAt l) := by
            by_cases h3 : n3 = 0
            · subst h3; exact ⟨[], rfl, Sl.none⟩
            · obtain ⟨b3, o3, rfl, hb3, hc3'⟩ := hx3 (by omega)
              refine ⟨(List.range n3).map fun i => intC (W.cell? ⟨b3, o3 + i * 1 + 0, none⟩), by simp, fun _ => ⟨b3, o3, rfl, hb3, fun i hi j hj => ?_⟩⟩
              obtain ⟨u, _, _, hu, ku⟩ := hc3' i hi j hj
              obtain rfl : j = 0 := by omega
              obtain ⟨z, q, _, _⟩ := DataW.trod_int Tryd.underlying3 ku
              obtain rfl : u = .int .i64 z := by simpa using q
              have g : ((List.range n3).map fun i => intC (W.cell? ⟨b3, o3 + i * 1 + 0, none⟩)).getD i 0 = intC (W.cell? ⟨b3, o3 + i * 1 + 0, none⟩) := by
                rw [List.getD_eq_getElem?_getD, List.getElem?_map, List.getElem?_range hi]; rfl
              unfold intAt
              rw [g, hu]; rfl
          obtain ⟨l, hl1, hl2⟩ := hl
          subst hl1
          refine ⟨⟨z0, z1, z2, l⟩, a3, cap3, fun j hj => ?_, hl2, hz1, hn3⟩
          obtain rfl | rfl | rfl | rfl : j = 0 ∨ j = 1 ∨ j = 2 ∨ j = 3 := by omega
          · exact hc0
          · exact hc1
          · exact hc2
          · exact hc3
        have ch : ∃ (X : Nat → NodeD) (A : Nat → Option Addr) (K : Nat → Nat), ∀ i, i < n → (∀ j, j < 4 → W.cell? ⟨b, o + i * 4 + j, none⟩ = ((X i).cells (A i) (K i))[j]?) ∧ Sl W (A i) 1 (X i).f3.length (intAt (X i).f3) ∧ (X i).f1.size ≤ 9223372036854775807 ∧ (X i).f3.length ≤ 9223372036854775807 := by
          have H : ∀ i, ∃ y : NodeD × Option Addr × Nat, i < n → (∀ j, j < 4 → W.cell? ⟨b, o + i * 4 + j, none⟩ = (y.1.cells y.2.1 y.2.2)[j]?) ∧ Sl W y.2.1 1 y.1.f3.length (intAt y.1.f3) ∧ y.1.f1.size ≤ 9223372036854775807 ∧ y.1.f3.length ≤ 9223372036854775807 := by
            intro i
            by_cases hi : i < n
            · obtain ⟨x, aa, cc, h1⟩ := one i hi
              exact ⟨(x, aa, cc), fun _ => h1⟩
            · exact ⟨(default, none, 0), fun h => absurd h hi⟩
          refine ⟨fun i => (Classical.choose (H i)).1, fun i => (Classical.choose (H i)).2.1, fun i => (Classical.choose (H i)).2.2, fun i hi => Classical.choose_spec (H i) hi⟩
        obtain ⟨X, A, K, hX⟩ := ch
        have get : ∀ i, i < n → ((List.range n).map X).getD i default = X i := by
          intro i hi
          rw [List.getD_eq_getElem?_getD, List.getElem?_map, List.getElem?_range hi]; rfl
        refine ⟨(List.range n).map X, by simp, ⟨A, K, fun _ => ⟨b, o, rfl, hb, fun i hi j hj => ?_⟩, fun i hi => ?_⟩, fun i hi => ?_⟩
        · unfold NodeD.at; rw [get i hi]; exact (hX i hi).1 j hj
        · unfold NodeD.args; rw [get i hi]; exact (hX i hi).2.1
        · rw [get i hi]; exact (hX i hi).2.2
    have hA : ∃ l : List AssignmentD, l.length = n' ∧ Sl W a' 2 n' (AssignmentD.at l) ∧ ∀ i, i < n' → (l.getD i default).f0.size ≤ 9223372036854775807 := by
      by_cases h0 : n' = 0
      · subst h0
        exact ⟨[], rfl, Sl.none, fun i hi => absurd hi (Nat.not_lt_zero i)⟩
      · obtain ⟨b, o, rfl, hb, hc⟩ := hx' (by omega)
        have get : ∀ i, i < n' → ((List.range n').map fun i => (⟨strC (W.cell? ⟨b, o + i * 2 + 0, none⟩), intC (W.cell? ⟨b, o + i * 2 + 1, none⟩)⟩ : AssignmentD)).getD i default = ⟨strC (W.cell? ⟨b, o + i * 2 + 0, none⟩), intC (W.cell? ⟨b, o + i * 2 + 1, none⟩)⟩ := by
          intro i hi
          rw [List.getD_eq_getElem?_getD, List.getElem?_map, List.getElem?_range hi]; rfl
        refine ⟨(List.range n').map fun i => (⟨strC (W.cell? ⟨b, o + i * 2 + 0, none⟩), intC (W.cell? ⟨b, o + i * 2 + 1, none⟩)⟩ : AssignmentD), by simp, fun _ => ⟨b, o, rfl, hb, fun i hi j hj => ?_⟩, fun i hi => ?_⟩
        · unfold AssignmentD.at
          rw [get i hi]
          obtain ⟨u, m, y, hu, ht⟩ := hc i hi j hj
          rw [hu]
          obtain rfl | rfl : j = 0 ∨ j = 1 := by omega
          · obtain ⟨z, e1, _, _⟩ := DataW.trod_string Tryd.underlying9 ht; obtain rfl : u = .string z := by simpa using e1
            simp only [hu, strC]; rfl
          · obtain ⟨z, e1, _, _⟩ := DataW.trod_int Tryd.underlying3 ht; obtain rfl : u = .int .i64 z := by simpa using e1
            simp only [hu, intC]; rfl
        · rw [get i hi]
          obtain ⟨u, m, y, hu, ht⟩ := hc i hi 0 (by decide)
          obtain ⟨z, e1, _, hz⟩ := DataW.trod_string Tryd.underlying9 ht; obtain rfl : u = .string z := by simpa using e1
          unfold maxLen at hz; simp only [hu, strC]; exact hz
    obtain ⟨lN, hN1, hN2, hN3⟩ := hN
    obtain ⟨lA, hA1, hA2, hA3⟩ := hA
    exact ⟨⟨lN, lA, n, n', hN1, hA1⟩, Lib.hid ⟨a, cap, a', cap', rfl, hN2, hA2⟩, hn, hn', hN3, hA3⟩
end Go.Proofs.YtdkjiafdfenbkaaDoor
