/- EdgesS, with EdgeMath, CmpEdge, SortRow, Sorted, SortedEdges, PairsB, EdgeFaces, EdgeLists, Put ahead of it. -/
import Derived.Test.YtpfmcobkfofbjaaGroups
import Derived.Deep.RegionHeld3
import Derived.Sort.Grow
import Derived.Shelf.SlSortCmp.NoneTotal
import Derived.Test.YtpfmcobkfofbjaaSortShelf
import Derived.Test.YtpfmcobkfofbjaaEdgeTable
import Derived.Maps.RangeWalk
import Derived.Test.YtpfmcobkfofbjaaFaceSteps
import Derived.Test.YtpfmcobkfofbjaaValidMeshS
namespace Go.Proofs.Ytpfmcobkfofbjaa
open Go Go.RowKit
def ltE (a b : Int × Int) : Bool := decide (a.1 < b.1 ∨ (a.1 = b.1 ∧ a.2 < b.2))
theorem ltE_iff {a b : Int × Int} : ltE a b = true ↔ (a.1 < b.1 ∨ (a.1 = b.1 ∧ a.2 < b.2)) := by simp [ltE]
theorem ltE_not {a b : Int × Int} : ltE a b = false ↔ (b = a ∨ ltE b a = true) := by
  obtain ⟨a1, a2⟩ := a
  obtain ⟨b1, b2⟩ := b
  rw [ltE_iff, Prod.mk.injEq]
  simp only [ltE, decide_eq_false_iff_not]
  omega
theorem ltE_irr (a : Int × Int) : ltE a a = false := ltE_not.2 (.inl rfl)
theorem ltE_trans {a b c : Int × Int} (h : ltE a b = true) (k : ltE b c = true) : ltE a c = true := by
  rw [ltE_iff] at *; omega
theorem ltE_asymm {a b : Int × Int} (h : ltE a b = true) : ltE b a = false := by
  cases hb : ltE b a
  · rfl
  · have := ltE_trans h hb; rw [ltE_irr] at this; cases this
def SortedE (l : List (Int × Int)) : Prop := l.Pairwise fun a b => ltE a b = true
/-- p put in its place, if it is not there. -/
def putE : List (Int × Int) → Int × Int → List (Int × Int)
  | [], p => [p]
  | q :: l, p => if ltE q p = true then q :: putE l p else if q = p then q :: l else p :: q :: l
theorem mem_putE {l : List (Int × Int)} {p x : Int × Int} : x ∈ putE l p ↔ x = p ∨ x ∈ l := by
  induction l with
  | nil => simp [putE]
  | cons q l ih =>
    unfold putE
    split
    · rw [List.mem_cons, ih, List.mem_cons]
      constructor
      · rintro (h | h | h) <;> simp [h]
      · rintro (h | h | h) <;> simp [h]
    · split
      · rename_i h; subst h; simp
      · simp
theorem sorted_putE {l : List (Int × Int)} {p : Int × Int} (h : SortedE l) : SortedE (putE l p) := by
  induction l with
  | nil => simp [putE, SortedE]
  | cons q l ih =>
    obtain ⟨h1, h2⟩ := List.pairwise_cons.1 h
    unfold putE
    split
    · rename_i hq
      refine List.pairwise_cons.2 ⟨fun x hx => ?_, ih h2⟩
      rcases mem_putE.1 hx with rfl | hx
      · exact hq
      · exact h1 x hx
    · rename_i hq
      split
      · exact h
      · rename_i hne
        have hpq : ltE p q = true := by
          rcases ltE_not.1 (Bool.eq_false_iff.2 hq) with e | e
          · exact absurd e.symm hne
          · exact e
        refine List.pairwise_cons.2 ⟨fun x hx => ?_, h⟩
        rcases List.mem_cons.1 hx with rfl | hx
        · exact hpq
        · exact ltE_trans hpq (h1 x hx)
theorem putE_len (l : List (Int × Int)) (p : Int × Int) : (putE l p).length ≤ l.length + 1 := by
  induction l with
  | nil => simp [putE]
  | cons q l ih => unfold putE; split; · simp; omega
                   · split <;> simp
/-- Two lists in order with the same members are one. -/
theorem sortedE_eq {a b : List (Int × Int)} (ha : SortedE a) (hb : SortedE b) (h : ∀ x, x ∈ a ↔ x ∈ b) : a = b := by
  induction a generalizing b with
  | nil =>
    cases b with
    | nil => rfl
    | cons y b => exact absurd ((h y).2 (by simp)) (by simp)
  | cons x a ih =>
    cases b with
    | nil => exact absurd ((h x).1 (by simp)) (by simp)
    | cons y b =>
      obtain ⟨ha1, ha2⟩ := List.pairwise_cons.1 ha
      obtain ⟨hb1, hb2⟩ := List.pairwise_cons.1 hb
      have e : x = y := by
        have h1 := (h x).1 (by simp)
        have h2 := (h y).2 (by simp)
        rcases List.mem_cons.1 h1 with e | h1
        · exact e
        · rcases List.mem_cons.1 h2 with e | h2
          · exact e.symm
          · have q := ltE_asymm (ha1 y h2)
            rw [hb1 x h1] at q; cases q
      subst e
      congr 1
      refine ih ha2 hb2 fun z => ⟨fun hz => ?_, fun hz => ?_⟩
      · rcases List.mem_cons.1 ((h z).1 (by simp [hz])) with e | hz2
        · subst e; have := ha1 z hz; rw [ltE_irr] at this; cases this
        · exact hz2
      · rcases List.mem_cons.1 ((h z).2 (by simp [hz])) with e | hz2
        · subst e; have := hb1 z hz; rw [ltE_irr] at this; cases this
        · exact hz2
theorem sortedE_nodup {l : List (Int × Int)} (h : SortedE l) : l.Nodup :=
  h.imp fun {a b} hab e => by subst e; rw [ltE_irr] at hab; cases hab
/-- .. sorted by the library. -/
def sortE (l : List (Int × Int)) : List (Int × Int) := l.mergeSort fun x y => !ltE y x
theorem mem_sortE {l : List (Int × Int)} {x : Int × Int} : x ∈ sortE l ↔ x ∈ l := List.mem_mergeSort
theorem len_sortE (l : List (Int × Int)) : (sortE l).length = l.length := List.length_mergeSort _
theorem sorted_sortE {l : List (Int × Int)} (h : l.Nodup) : SortedE (sortE l) := by
  have h1 : (sortE l).Pairwise fun x y => (!ltE y x) = true := List.pairwise_mergeSort (fun a b c hab hbc => by
      simp only [Bool.not_eq_true', ltE, decide_eq_false_iff_not] at *; omega) (fun a b => by
      simp only [Bool.or_eq_true, Bool.not_eq_true', ltE, decide_eq_false_iff_not]; omega) l
  have h2 : (sortE l).Nodup := (List.mergeSort_perm l _).nodup_iff.2 h
  refine (h1.and h2).imp fun {a b} ⟨h3, h4⟩ => ?_
  rcases ltE_not.1 (by simpa using h3 : ltE b a = false) with e | e
  · exact absurd e h4
  · exact e
/-- Two lists in any order with the same members, each once: sorted they are one. -/
theorem sortE_congr {a b : List (Int × Int)} (ha : a.Nodup) (hb : b.Nodup) (h : ∀ x, x ∈ a ↔ x ∈ b) : sortE a = sortE b :=
  sortedE_eq (sorted_sortE ha) (sorted_sortE hb) fun x => by rw [mem_sortE, mem_sortE, h]
theorem sortE_of_sorted {l : List (Int × Int)} (h : SortedE l) : sortE l = l :=
  sortedE_eq (sorted_sortE (sortedE_nodup h)) h fun _ => mem_sortE
/-- What l06Put does: k is the first place that is not ahead of p. -/
theorem putE_at {l : List (Int × Int)} {p : Int × Int} {k : Nat} (hk : k ≤ l.length) (h1 : ∀ i, i < k → ltE (l.getD i (0, 0)) p = true) (h2 : k < l.length → ltE (l.getD k (0, 0)) p = false) :
    putE l p = if k < l.length ∧ l.getD k (0, 0) = p then l else l.take k ++ p :: l.drop k := by
  induction l generalizing k with
  | nil =>
    obtain rfl : k = 0 := by simpa using hk
    simp [putE]
  | cons q l ih =>
    cases k with
    | zero =>
      have h3 := h2 (by simp)
      simp only [List.getD_cons_zero] at h3
      unfold putE
      rw [h3]
      by_cases e : q = p <;> simp [e]
    | succ k =>
      have h3 := h1 0 (by omega)
      simp only [List.getD_cons_zero] at h3
      unfold putE
      rw [if_pos h3, ih (k := k) (by simpa using hk) (fun i hi => by simpa using h1 (i + 1) (by omega)) (fun hl => by simpa using h2 (by simp; omega))]
      simp only [List.length_cons, List.getD_cons_succ, Nat.add_lt_add_iff_right, List.take_succ_cons, List.drop_succ_cons, List.cons_append]
      split <;> rfl
/-- The edges of the first j steps of a face, put into L; of the first k faces. -/
def putSteps (f : List Int) (L : List (Int × Int)) (j : Nat) : List (Int × Int) := (List.range j).foldl (fun l t => putE l (und (stepAt f t))) L
theorem putSteps_succ (f : List Int) (L : List (Int × Int)) (j : Nat) : putSteps f L (j + 1) = putE (putSteps f L j) (und (stepAt f j)) := by simp [putSteps, List.range_succ]
def edgesL (s : List (List Int)) (k : Nat) : List (Int × Int) := (List.range k).foldl (fun l i => putSteps (faceAt s i) l 4) []
theorem edgesL_succ (s : List (List Int)) (k : Nat) : edgesL s (k + 1) = putSteps (faceAt s k) (edgesL s k) 4 := by simp [edgesL, List.range_succ]
theorem mem_addK {ks : List (Int × Int)} {p x : Int × Int} : x ∈ addK ks p ↔ x = p ∨ x ∈ ks := by
  unfold addK
  split
  · constructor
    · exact fun h => .inr h
    · rintro (rfl | h) <;> assumption
  · simp [or_comm]
theorem nodup_addK {ks : List (Int × Int)} {p : Int × Int} (h : ks.Nodup) : (addK ks p).Nodup := by
  unfold addK
  split
  · exact h
  · exact nodup_snoc h (by assumption)
theorem steps_ok (f : List Int) {ks L : List (Int × Int)} (hs : SortedE L) (hn : ks.Nodup) (h : ∀ x, x ∈ ks ↔ x ∈ L) : ∀ j, SortedE (putSteps f L j) ∧ (stepKeys f ks j).Nodup ∧ ∀ x, x ∈ stepKeys f ks j ↔ x ∈ putSteps f L j
  | 0 => ⟨hs, hn, h⟩
  | j + 1 => by
    obtain ⟨h1, h2, h3⟩ := steps_ok f hs hn h j
    rw [putSteps_succ, stepKeys_succ]
    exact ⟨sorted_putE h1, nodup_addK h2, fun x => by rw [mem_addK, mem_putE, h3]⟩
theorem edges_ok (s : List (List Int)) : ∀ k, SortedE (edgesL s k) ∧ (keysTo s k).Nodup ∧ ∀ x, x ∈ keysTo s k ↔ x ∈ edgesL s k
  | 0 => ⟨List.Pairwise.nil, List.nodup_nil, fun _ => Iff.rfl⟩
  | k + 1 => by
    obtain ⟨h1, h2, h3⟩ := edges_ok s k
    rw [edgesL_succ, keysTo_succ]
    exact steps_ok (faceAt s k) h1 h2 h3 4
theorem sortE_keys (s : List (List Int)) (k : Nat) : sortE (keysTo s k) = edgesL s k := by
  obtain ⟨h1, h2, h3⟩ := edges_ok s k
  rw [← sortE_of_sorted h1]
  exact sortE_congr h2 (sortedE_nodup h1) h3
theorem edges_len (s : List (List Int)) (k : Nat) : (edgesL s k).length = (keysTo s k).length := by rw [← sortE_keys, len_sortE]
theorem putSteps_len (f : List Int) (L : List (Int × Int)) : ∀ j, (putSteps f L j).length ≤ L.length + j
  | 0 => Nat.le_refl _
  | j + 1 => by
    rw [putSteps_succ]
    have := putE_len (putSteps f L j) (und (stepAt f j))
    have := putSteps_len f L j
    omega
theorem edgesL_len (s : List (List Int)) : ∀ k, (edgesL s k).length ≤ 4 * k
  | 0 => Nat.le_refl _
  | k + 1 => by
    rw [edgesL_succ]
    have := putSteps_len (faceAt s k) (edgesL s k) 4
    have := edgesL_len s k
    omega
/-- A part of the edges: sorted keys of which q holds. -/
theorem sortE_filter (s : List (List Int)) (k : Nat) (q : Int × Int → Bool) : sortE ((keysTo s k).filter q) = (edgesL s k).filter q := by
  obtain ⟨h1, h2, h3⟩ := edges_ok s k
  have h4 : SortedE ((edgesL s k).filter q) := h1.filter _
  rw [← sortE_of_sorted h4]
  exact sortE_congr (h2.filter _) (sortedE_nodup h4) fun x => by rw [List.mem_filter, List.mem_filter, h3]
/-- Each edge has its smaller end ahead, and both ends are vertices. -/
theorem mem_edgesL {s : List (List Int)} {k : Nat} {x : Int × Int} (h : x ∈ edgesL s k) : ∃ i j, i < k ∧ j < 4 ∧ x = und (stepAt (faceAt s i) j) := by
  induction k with
  | zero => exact absurd h (by simp [edgesL])
  | succ k ih =>
    rw [edgesL_succ] at h
    have key : ∀ j, j ≤ 4 → x ∈ putSteps (faceAt s k) (edgesL s k) j → ∃ i j, i < k + 1 ∧ j < 4 ∧ x = und (stepAt (faceAt s i) j) := by
      intro j
      induction j with
      | zero =>
        intro _ h
        obtain ⟨i, j, h1, h2, h3⟩ := ih h
        exact ⟨i, j, by omega, h2, h3⟩
      | succ j ih2 =>
        intro hj h
        rw [putSteps_succ] at h
        rcases mem_putE.1 h with e | h
        · exact ⟨k, j, by omega, by omega, e⟩
        · exact ih2 (by omega) h
    exact key 4 (Nat.le_refl _) h
theorem und_und (p : Int × Int) : und (und p) = und p := by
  obtain ⟨a, b⟩ := p
  simp only [und, Prod.mk.injEq]; omega
theorem und_of_edge {s : List (List Int)} {k : Nat} {x : Int × Int} (h : x ∈ edgesL s k) : und x = x := by
  obtain ⟨i, j, _, _, rfl⟩ := mem_edgesL h
  exact und_und _
end Go.Proofs.Ytpfmcobkfofbjaa
namespace Go.Proofs.Ytpfmcobkfofbjaa
open Go Go.RowKit Go.Sort
def cmpI (x y : Int) : Int := if x < y then -1 else if y < x then 1 else 0
def cmpE (p q : Int × Int) : Int := if cmpI p.1 q.1 = 0 then cmpI p.2 q.2 else cmpI p.1 q.1
theorem cmpE_neg (p q : Int × Int) : decide (cmpE p q < 0) = ltE p q := by
  obtain ⟨a, b⟩ := p
  obtain ⟨c, d⟩ := q
  unfold cmpE cmpI ltE
  dsimp only
  by_cases h1 : a < c
  · simp [h1]
  · by_cases h2 : c < a
    · simp [h1, h2]; omega
    · by_cases h3 : b < d
      · simp [h1, h2, h3]; omega
      · by_cases h4 : d < b
        · simp [h1, h2, h3, h4]
        · simp [h1, h2, h3, h4]
theorem cmp_isNaN_c (x : Int) (w : World) : Calls Try.prog 72 #[.int .i64 x] w fun e w' => e = .returned (.bool false) ∧ w = w' := by
  go_enter Try.func72, Try.ntmps72
  go_wp2
  all_goals (go_ret; refine ⟨ret_bool ?_, rfl⟩; simp)
theorem cmp_Compare_c (x y : Int) (w : World) : Calls Try.prog 59 #[.int .i64 x, .int .i64 y] w fun e w' => e = .returned (.int .i64 (cmpI x y)) ∧ w = w' := by
  have HC := Lib.hid (show ∀ r, r = cmpI x y → r = if x < y then -1 else if y < x then 1 else 0 from fun r h => h)
  go_enter Try.func59, Try.ntmps59
  go_wp2_with (go_at_call 72; refine (cmp_isNaN_c _ _).mono ?_; rintro e w' ⟨rfl, rfl⟩)
  all_goals (go_ret; refine ⟨ret_int ?_, rfl⟩; simp only [cmpI]; repeat' split; all_goals (first | rfl | (simp_all; done) | (exfalso; omega) | (simp at *; omega)))
/-- Of two numbers in a block: the first that is not nought. -/
theorem cmp_Or_c (g c : Nat) (x y r : Int) (w : World) (hr : r = if x = 0 then y else x) (h0 : w.cell? ⟨g, 0, none⟩ = some (.int .i64 x)) (h1 : w.cell? ⟨g, 1, none⟩ = some (.int .i64 y)) :
    Calls Try.prog 58 #[.slice (some ⟨g, 0, none⟩) 2 c] w fun e w' => e = .returned (.int .i64 r) ∧ w = w' := by
  have HA := Lib.hid (show (x != 0) = true → x = r from fun h => by rw [hr, if_neg (by simpa using h)])
  have HB := Lib.hid (show (x != 0) = false → y = r from fun h => by rw [hr, if_pos (by simpa using h)])
  clear hr
  go_enter Try.func58, Try.ntmps58
  go_wp2
  refine wp_loop_rounds 3 ?_
  rw [rounds_succ]
  go_wp2
  all_goals try (go_ret; exact ⟨ret_int (HA.out (by assumption)), rfl⟩)
  rw [rounds_succ]
  go_wp2
  all_goals try (go_ret; exact ⟨ret_int (HB.out (by assumption)), rfl⟩)
  rw [rounds_succ]
  go_wp2
  go_ret
  refine ⟨ret_int ?_, rfl⟩
  rw [← HB.out (by assumption)]
  simp_all
@[reducible] def CmpS (E : Nat) (a b c d : Int) (w' : World) : Prop := w'.cell? ⟨E, 0, none⟩ = some (.int .i64 a) ∧ w'.cell? ⟨E, 1, none⟩ = some (.int .i64 b) ∧ w'.cell? ⟨E + 1, 0, none⟩ = some (.int .i64 c) ∧ w'.cell? ⟨E + 1, 1, none⟩ = some (.int .i64 d)
set_option maxRecDepth 100000 in
set_option maxHeartbeats 2000000 in
theorem cmpEdges_c (p q : Int × Int) (W : World) : Calls Try.prog 57 #[.agg #[.int .i64 p.1, .int .i64 p.2], .agg #[.int .i64 q.1, .int .i64 q.2]] W fun e w' => e = .returned (.int .i64 (cmpE p q)) ∧ ∃ n os, w' = grow (W.drewN n) os := by
  obtain ⟨a, b⟩ := p
  obtain ⟨c, d⟩ := q
  dsimp only
  have HC1 := Lib.hid (fun w => cmp_Compare_c a c w)
  have HC2 := Lib.hid (fun w => cmp_Compare_c b d w)
  have HR := Lib.hid (show cmpE (a, b) (c, d) = if cmpI a c = 0 then cmpI b d else cmpI a c from rfl)
  generalize cmpE (a, b) (c, d) = r at *
  generalize cmpI a c = r1 at *
  generalize cmpI b d = r2 at *
  go_enter Try.func57, Try.ntmps57
  go_wp2
  refine region_tail 10 (by kernel_rfl) (by kernel_rfl) ?_
  simp only [List.take_succ_cons, List.take_zero, List.drop_succ_cons, List.drop_zero]
  repeat still_step
  still_call (flip_same (HC1.out _))
  repeat still_step
  still_call (flip_same (HC2.out _))
  repeat still_step
  refine wpStill_nil ?_
  go_wp2_with (go_at_call 58; refine (cmp_Or_c _ _ r1 r2 r _ HR.out (by simp [go_sem]) (by simp [go_sem])).mono ?_; rintro e w' ⟨rfl, rfl⟩)
  go_ret
  refine ⟨rfl, 1, #[.cells #[.int .i64 a, .int .i64 b] 55, .cells #[.int .i64 c, .int .i64 d] 55, .cells #[.int .i64 r1, .int .i64 r2] 3], ?_⟩
  unfold grow World.alloc World.drew World.drewN
  congr 1
end Go.Proofs.Ytpfmcobkfofbjaa
namespace Go.Proofs.Ytpfmcobkfofbjaa
open Go Go.RowKit Go.Sort
def encE (p : Int × Int) : List Value := [.int .i64 p.1, .int .i64 p.2]
theorem ltOf_cmpE : ltOf cmpE = ltE := by
  funext x y
  unfold ltOf
  exact cmpE_neg x y
theorem swo_cmpE : SWO (ltOf cmpE) := by
  rw [ltOf_cmpE]
  refine ⟨fun x => ltE_irr x, fun x y z h1 h2 => ltE_trans h1 h2, fun x y z h1 h2 => ?_⟩
  simp only [ltE, decide_eq_false_iff_not] at *; omega
theorem cut_cmpE (x y : Int × Int) (h1 : ltOf cmpE x y = false) (h2 : ltOf cmpE y x = false) : x = y := by
  rw [ltOf_cmpE] at h1 h2
  rcases ltE_not.1 h1 with e | e
  · exact e.symm
  · rw [h2] at e; cases e
theorem flat_edges (L : List (Int × Int)) : (flatK encE 2 L.toArray).toList = edgeVals L := by
  have hl : (edgeVals L).length = L.length * 2 := flat_len (fun _ _ => rfl)
  apply List.ext_getElem?
  intro t
  by_cases ht : t < L.length * 2
  · have h1 : (edgeVals L)[t / 2 * 2 + t % 2]? = (edgeAt L (t / 2))[t % 2]? := flat_get (s := 2) (n := L.length) (C := edgeAt L) (fun _ _ => rfl) (t / 2) (by omega) (t % 2) (Nat.mod_lt _ (by omega))
    rw [show t / 2 * 2 + t % 2 = t by omega] at h1
    rw [h1, Array.getElem?_toList]
    have h2 : (flatK encE 2 L.toArray)[t]? = some (flatK encE 2 L.toArray)[t]! := by
      rw [getElem!_pos _ t (by simpa using ht)]
      exact Array.getElem?_eq_getElem _
    rw [h2, get_flatK _ _ _ _ (by simpa using ht)]
    have h3 : t / 2 < L.length := by omega
    have h4 : L.toArray[t / 2]! = L.getD (t / 2) (0, 0) := by
      rw [getElem!_pos _ _ (by simpa using h3)]
      simp [List.getD_eq_getElem?_getD, List.getElem?_eq_getElem h3]
    rw [h4]
    rcases Nat.mod_two_eq_zero_or_one t with e | e <;> rw [e] <;> simp [edgeAt, encE]
  · rw [List.getElem?_eq_none (by simp; omega), List.getElem?_eq_none (by omega)]
theorem holds_flat {w : World} {g : Nat} {cur : Array Value} {e : TypeId} {F : Array Value} (hb : w.heap[g]? = some (.cells cur e (0, 0))) (ht : cur.toList.take F.size = F.toList) : Holds id w g 0 F := by
  intro j hj
  refine ⟨?_, by simp [World.frozen?, hb]⟩
  have h1 : (cur.toList.take F.size)[j]? = F.toList[j]? := by rw [ht]
  rw [List.getElem?_take_of_lt hj] at h1
  simp only [World.cell?, hb, Nat.zero_add]
  simp only [Option.isSome_none, Bool.false_eq_true, if_false]
  rw [← Array.getElem?_toList, h1, getElem!_pos F j hj]
  simp [hj]
theorem heap_flat {w : World} {g n : Nat} {os : Array Obj} {cur : Array Value} {e : TypeId} {fr : Nat × Nat} (F : Array Value) (hb : w.heap[g]? = some (.cells cur e fr)) :
    (grow (putRow id (Sort.ahead w n) g 0 F) os).heap[g]? = some (.cells (putCells id 0 F cur) e fr) := by
  have hg : g < w.heap.size := (Array.getElem?_eq_some_iff.1 hb).1
  rw [heap_grow_old _ _ (by simpa using hg)]
  simp [putRow, mapBlock, Sort.ahead, Array.getElem?_modify, hb, onCells]
theorem grownBy_flat {w : World} {g n : Nat} {os : Array Obj} (F : Array Value) : w.grownBy (grow (putRow id (Sort.ahead w n) g 0 F) os) (some g) := by
  refine ⟨rfl, rfl, rfl, by simp, fun k hk hne => ?_⟩
  rw [heap_grow_old _ _ (by simpa using hk)]
  have : g ≠ k := fun e => hne (by rw [e])
  simp [putRow, mapBlock, Sort.ahead, Array.getElem?_modify, this]
theorem take_flat (cur F : Array Value) (h : F.size ≤ cur.size) : (putCells id 0 F cur).toList.take F.size = F.toList := by
  apply List.ext_getElem?
  intro j
  by_cases hj : j < F.size
  · rw [List.getElem?_take_of_lt hj, Array.getElem?_toList]
    simp [putCells, hj, show j < cur.size by omega]
  · rw [List.getElem?_take_eq_none (by omega), List.getElem?_eq_none (by simp; omega)]
/-- Behind the sort the same slice owns the sorted row. -/
theorem owns_flat {w : World} {base g cap n m : Nat} {e : TypeId} {os : Array Obj} {cur : Array Value} {L : List (Int × Int)} (hl : L.length = m) (hbase : base ≤ g) (hb : w.heap[g]? = some (.cells cur e (0, 0)))
    (h1 : m ≤ cap) (h2 : cap ≤ maxLen) (h3 : cur.size = cap * 2) :
    (grow (putRow id (Sort.ahead w n) g 0 (flatK encE 2 L.toArray)) os).ownsRow base e 2 (.slice (some ⟨g, 0, none⟩) m cap) m (edgeVals L) := by
  have hs : (flatK encE 2 L.toArray).size = m * 2 := by simp [hl]
  refine ⟨by rw [← flat_edges]; simp [hl], .inr ⟨g, cap, _, rfl, hbase, heap_flat _ hb, h1, h2, by simp [putCells, h3], ?_⟩⟩
  rw [← flat_edges, ← hs]
  refine take_flat cur _ ?_
  rw [hs, h3]
  exact Nat.mul_le_mul_right 2 h1
end Go.Proofs.Ytpfmcobkfofbjaa
namespace Go.Proofs.Ytpfmcobkfofbjaa
open Go Go.RowKit Go.Maps Go.Sort
theorem cmpLays (blk off size : Nat) (w : World) : CmpLays Try.prog 57 #[] encE 2 cmpE blk off size w :=
  fun _ _ _ _ x y => cmpEdges_c x y _
set_option maxRecDepth 100000 in
/-- The library's sort, on a row of one's own. -/
theorem sortFunc_c (base : Nat) (v : Value) (L : List (Int × Int)) (w : World) (ho : w.ownsRow base 55 2 v L.length (edgeVals L)) (hn : L.length ≤ 1048576) :
    Calls Try.prog 56 #[v, .func (.func 57) #[] #[]] w fun e w' => e = .returned (.tuple #[]) ∧ w'.ownsRow base 55 2 v L.length (edgeVals (sortE L)) ∧ w.grownBy w' v.ownBlock := by
  have nil : ∀ (p : Option Addr) (cap : Nat), v = .slice p 0 cap → L.length = 0 → Calls Try.prog 56 #[v, .func (.func 57) #[] #[]] w fun e w' => e = .returned (.tuple #[]) ∧ w'.ownsRow base 55 2 v L.length (edgeVals (sortE L)) ∧ w.grownBy w' v.ownBlock := by
    intro p cap hv h0
    have hL : sortE L = L := by obtain rfl := List.length_eq_zero_iff.1 h0; exact List.mergeSort_nil
    subst hv
    have h := AnyF.slices_SortFunc_none Try.sortEdge p cap (.func (.func 57) #[] #[]) w
    change Calls Try.prog 56 _ _ _ at h
    refine h.mono ?_
    rintro e w' ⟨rfl, rfl⟩
    exact ⟨rfl, by rw [hL]; exact ho, ⟨rfl, rfl, rfl, Nat.le_refl _, fun _ _ _ => rfl⟩⟩
  have ho' := ho
  rcases ho.2 with ⟨rfl, h0⟩ | ⟨g, cap, cur, rfl, hb, hg, hnc, hcm, hcs, ht⟩
  · exact nil none 0 rfl h0
  · by_cases h0 : L.length = 0
    · exact nil (some ⟨g, 0, none⟩) cap (by rw [h0]) h0
    have eg : ∀ args w, (callFunc 57 args).run Try.prog w = .ok (.enter 57 args) w := enters_of Try.func57 (by kernel_rfl) rfl
    have hsz : (flatK encE 2 L.toArray).size = L.length * 2 := by simp
    have hH : HoldsK encE 2 w g 0 L.toArray := holds_flat hg (by rw [hsz, flat_edges]; exact ht)
    have h := AnyQ.slices_SortFunc_total Try.sortEdge 2 Try.isAgg55 Try.sizeOf55 encE (fun _ => rfl) (fun x v hv => by simp [encE] at hv; rcases hv with rfl | rfl <;> rfl) cmpE swo_cmpE 57 #[] g 0 cap L.toArray w eg (cmpLays g 0 _ w) hH (Array.getElem?_eq_some_iff.1 hg).1 (by simp; omega) cut_cmpE
    change Calls Try.prog 56 _ _ _ at h
    refine h.mono ?_
    rintro e w' ⟨rfl, n, os, rfl⟩
    have hs : (L.toArray.toList.mergeSort fun x y => !(ltOf cmpE) y x) = sortE L := by rw [ltOf_cmpE]; rfl
    rw [hs]
    refine ⟨rfl, ?_, ?_⟩
    · have hw := owns_flat (n := n) (os := os) (L := sortE L) (m := L.length) (len_sortE L) hb hg hnc hcm hcs
      exact hw
    · exact grownBy_flat _
set_option maxRecDepth 100000 in
set_option maxHeartbeats 1000000 in
/-- A key of the map is an edge. -/
theorem key_edge {key : Value} {kl : Lit} (h : keyOf Try.prog 55 key = some kl) : ∃ p : Int × Int, key = edgeV p := by
  unfold keyOf at h
  simp only [Try.underlying55] at h
  split at h
  · rename_i hc
    simp only [Bool.and_eq_true] at hc
    have hf := hc.2
    cases hl : Try.prog.keyLits (Try.prog.types.size + 1) 55 key.cells.toList with
    | none => rw [hl] at h; cases h
    | some ls =>
      clear h hc
      cases key with
      | agg cs =>
        simp only [Value.cells] at hl
        obtain ⟨m, hm⟩ : ∃ m, Try.prog.types.size + 1 = m + 2 := by
          have h0 : 0 < Try.prog.types.size := Nat.lt_of_le_of_lt (Nat.zero_le _) edge_row
          revert h0
          generalize Try.prog.types.size = s
          intro h0
          exact ⟨s - 1, by omega⟩
        rw [hm] at hl
        unfold Program.keyLits at hl
        simp only [Try.underlying55, edge_cells] at hl
        obtain ⟨l⟩ := cs
        simp only at hl
        split at hl
        · rename_i hc
          obtain ⟨hc1, _⟩ := hc
          match l, hc1 with
          | [a, b], _ =>
            have i1 : ∀ x z, Try.prog.keyLits (m + 1) 3 [x] = some z → ∃ n, x = .int .i64 n := fun x z hx => by
              unfold Program.keyLits at hx
              simp only [Try.underlying3] at hx
              cases x <;> simp at hx
              rename_i q n
              exact ⟨n, by rw [hx.1.1]⟩
            simp [int_cells] at hl
            cases ha : Try.prog.keyLits (m + 1) 3 [a] with
            | none => rw [ha] at hl; cases hl
            | some za =>
              cases hb : Try.prog.keyLits (m + 1) 3 [b] with
              | none => rw [ha, hb] at hl; cases hl
              | some zb =>
                obtain ⟨n1, rfl⟩ := i1 a za ha
                obtain ⟨n2, rfl⟩ := i1 b zb hb
                exact ⟨(n1, n2), rfl⟩
        · cases hl
      | _ => simp [Value.formed, Try.underlying55] at hf
  · cases h
/-- A range over the map: those of done have come, the others are still to come, cnt of them. -/
def MapRg (w : World) (b r n : Nat) (ks : List (Int × Int)) (F : Int × Int → Value) (done : List (Int × Int)) (cnt : Nat) : Prop :=
  ∃ (D : DataW Value) (left : Lit → Bool), w.ranges Try.prog 55 rawElem b r n D left cnt ∧ (∀ p kl, keyOf Try.prog 55 (edgeV p) = some kl → D.atKey kl (.held (.slice none 0 0)) = .held (F p)) ∧
    (∀ p kl, keyOf Try.prog 55 (edgeV p) = some kl → left kl = true → p ∈ ks ∧ p ∉ done) ∧ (∀ p kl, keyOf Try.prog 55 (edgeV p) = some kl → p ∈ ks → p ∉ done → left kl = true) ∧
    (∀ p ∈ ks, wfE p) ∧ done.Nodup ∧ ∀ p ∈ done, p ∈ ks
theorem MapRg.kept {w w' : World} {b r n cnt : Nat} {ks done : List (Int × Int)} {F : Int × Int → Value} {row : Option Nat} (h : MapRg w b r n ks F done cnt) (hg : w.grownBy w' row) (h1 : some b ≠ row) (h2 : some r ≠ row) : MapRg w' b r n ks F done cnt := by
  obtain ⟨D, left, h3, h4⟩ := h
  exact ⟨D, left, h3.kept hg h1 h2, h4⟩
theorem MapRg.below {w w' : World} {b r n cnt : Nat} {ks done : List (Int × Int)} {F : Int × Int → Value} (h : MapRg w b r n ks F done cnt) (hb : Below w.heap.size w w') : MapRg w' b r n ks F done cnt := h.kept (grownBy_of_below hb) (by simp) (by simp)
theorem MapRg.lt {w : World} {b r n cnt : Nat} {ks done : List (Int × Int)} {F : Int × Int → Value} (h : MapRg w b r n ks F done cnt) : b < w.heap.size ∧ r < w.heap.size := by
  obtain ⟨D, left, h3, h4⟩ := h
  exact ⟨h3.owns.lt, h3.lt⟩
theorem MapRg.left_eq {w : World} {b r n cnt : Nat} {ks done : List (Int × Int)} {F : Int × Int → Value} (h : MapRg w b r n ks F done cnt) : w.rangeLeft b r = cnt := by
  obtain ⟨D, left, h3, h4⟩ := h
  exact h3.left_eq
theorem MapRg.not_cells {w : World} {b r n cnt : Nat} {ks done : List (Int × Int)} {F : Int × Int → Value} (h : MapRg w b r n ks F done cnt) {g : Nat} {cs : Array Value} {e : TypeId} {fz : Nat × Nat} (hc : w.heap[g]? = some (.cells cs e fz)) : g ≠ b ∧ g ≠ r := by
  obtain ⟨D, left, ⟨es, clock, since, seen, c0, h1, _, _, _, h2, _⟩, h4⟩ := h
  refine ⟨fun e => ?_, fun e => ?_⟩
  · rw [e, h1] at hc; cases hc
  · rw [e, h2] at hc; cases hc
theorem wpList_range_map (w : World) {ops : Array Oper} {rest : List Oper} {o : Oper} {a : Act} {Q : Exit → Act → World → Prop} (hg : o.guard = none) (m : Operand) (hop : o.op = Op.range 48 m) (b n : Nat) (ks : List (Int × Int)) (F : Int × Int → Value)
    (hm : a.eval m = .map (some b)) (h : MapV w b n ks F)
    (hK : ∀ w' cnt, MapRg w' b w.heap.size n ks F [] cnt → w.grownBy w' none → w'.heap.size = w.heap.size + 1 → wpList Try.prog ops Q rest (a.put o.dst (.pointer (some ⟨w.heap.size, 0, none⟩))) w') :
    wpList Try.prog ops Q (o :: rest) a w := by
  obtain ⟨D, h1, h2, h3, h4, h5, h6, h7⟩ := h
  refine wpList_range_own w hg m _ hop 55 57 edge_law Try.underlying48 rawElem b n D hm h1 ?_
  intro w' hr hgr hsz
  refine hK w' _ ⟨D, _, hr, h2, fun p kl hk hl => ?_, fun p kl hk hp _ => ?_, h7, List.nodup_nil, by simp⟩ hgr hsz
  · rw [h4 p kl hk] at hl
    exact ⟨by simpa using hl, by simp⟩
  · rw [h4 p kl hk]
    simpa using hp
theorem wpList_next_map (w : World) {ops : Array Oper} {rest : List Oper} {o : Oper} {a : Act} {Q : Exit → Act → World → Prop} (hg : o.guard = none) (it : Operand) (hop : o.op = Op.next it false) (b r n : Nat) (ks : List (Int × Int)) (F : Int × Int → Value) (done : List (Int × Int)) (cnt : Nat)
    (hit : a.eval it = .pointer (some ⟨r, 0, none⟩)) (h : MapRg w b r n ks F done cnt)
    (hDone : (∀ p, p ∈ ks → p ∈ done) → wpList Try.prog ops Q rest (a.put o.dst (.tuple #[.bool false])) w)
    (hMore : ∀ (p : Int × Int) (w' : World) (cnt' : Nat), p ∈ ks → p ∉ done → MapRg w' b r n ks F (done ++ [p]) cnt' → cnt' < cnt → w.grownBy w' (some r) → w'.heap.size = w.heap.size →
      (Instr.entry (.pointer (some ⟨r, 0, none⟩))).run Try.prog w' = .ok (.tuple #[edgeV p, F p]) w' → wpList Try.prog ops Q rest (a.put o.dst (.tuple #[.bool true, edgeV p, F p])) w') :
    wpList Try.prog ops Q (o :: rest) a w := by
  obtain ⟨D, left, h1, h2, h3, h4, h5, h6, h7⟩ := h
  refine wpList_next_ranges w hg it hop 55 edge_law rawElem (edgeV : Int × Int → Value) (fun v : Value => v) (fun key kl hk => key_edge hk) (fun v y _ => ⟨v, rfl⟩) b r n D left cnt hit h1 ?_ ?_
  · intro _ hl
    refine hDone fun p hp => ?_
    obtain ⟨kl, hk⟩ := edge_key (h5 p hp)
    by_cases hd : p ∈ done
    · exact hd
    · have := h4 p kl hk hp hd
      rw [hl kl] at this; cases this
  · intro p c kl y w' cnt' hk hl hv hat hr hlt hgr hsz hen
    obtain ⟨e1, e2⟩ := h3 p kl hk hl
    have hc : c = F p := by
      have e3 := hat (.held (.slice none 0 0))
      rw [h2 p kl hk] at e3
      simp only [rawElem, Option.some.injEq] at hv
      rw [← hv] at e3
      simp only [DataW.held.injEq] at e3
      exact e3.symm
    subst hc
    have hkk := edge_law.key hk
    refine hMore p w' cnt' e1 e2 ⟨D, _, hr, h2, fun q kq hq hlq => ?_, fun q kq hq hqk hqd => ?_, h5, nodup_snoc h6 e2, fun q hq => ?_⟩ hlt hgr hsz hen
    · simp only [Bool.and_eq_true, Bool.not_eq_true'] at hlq
      obtain ⟨e3, e4⟩ := h3 q kq hq hlq.1
      refine ⟨e3, fun hm => ?_⟩
      rcases List.mem_append.1 hm with hm | hm
      · exact e4 hm
      · simp only [List.mem_singleton] at hm
        subst hm
        have : kq = kl := by rw [hk] at hq; exact (Option.some.inj hq).symm
        subst this
        have h9 := hlq.2
        rw [WideAt.sameKey_self hkk] at h9
        cases h9
    · have hne : q ≠ p := fun e => hqd (by rw [e]; simp)
      have h8 := h4 q kq hq hqk (fun hm => hqd (List.mem_append_left _ hm))
      have hnk : kq ≠ kl := fun e => hne (edge_inj hq (e ▸ hk))
      rw [h8]
      simp only [Bool.true_and, Bool.not_eq_true']
      exact sameKey_ne hnk
    · rcases List.mem_append.1 hq with hm | hm
      · exact h7 q hm
      · simp only [List.mem_singleton] at hm; rw [hm]; exact e1
end Go.Proofs.Ytpfmcobkfofbjaa
namespace Go.Proofs.Ytpfmcobkfofbjaa
open Go Go.RowKit Go.Maps Go.Sort
def qBnd (n : Nat) : Bool := decide (n = 1)
theorem qBnd_eq (n : Nat) : ((n : Int) == 1) = qBnd n := by
  rw [Bool.eq_iff_iff]; simp [qBnd]; omega
theorem nodup_len {α : Type} [BEq α] [LawfulBEq α] {l m : List α} (h : l.Nodup) (hs : ∀ x ∈ l, x ∈ m) : l.length ≤ m.length := by
  induction l generalizing m with
  | nil => simp
  | cons x l ih =>
    obtain ⟨h1, h2⟩ := List.nodup_cons.1 h
    have hx := hs x (by simp)
    have h3 := ih (m := m.erase x) h2 (fun y hy => (List.mem_erase_of_ne (fun (e : y = x) => h1 (by rw [← e]; exact hy))).2 (hs y (by simp [hy])))
    rw [List.length_erase_of_mem hx] at h3
    have := List.length_pos_of_mem hx
    simp only [List.length_cons]
    omega
def qAll (_ : Nat) : Bool := true
theorem own_slice {w : World} {base : Nat} {e : TypeId} {s : Nat} {v : Value} {n : Nat} {xs : List Value} (h : w.ownsRow base e s v n xs) : ∃ a cap, v = .slice a n cap := by
  rcases h.2 with ⟨rfl, h0⟩ | ⟨g, cap, cur, rfl, _⟩
  · exact ⟨none, 0, by rw [h0]⟩
  · exact ⟨_, _, rfl⟩
theorem is_bnd (a : Option Addr) (n c : Nat) (w : World) : Calls Try.prog 54 #[.slice a n c] w fun e w' => e = .returned (.bool (qBnd n)) ∧ w = w' := by
  go_enter Try.func54, Try.ntmps54
  go_wp2
  go_ret
  exact ⟨ret_bool (qBnd_eq n), rfl⟩
theorem is_all (a : Option Addr) (n c : Nat) (w : World) : Calls Try.prog 43 #[.slice a n c] w fun e w' => e = .returned (.bool (qAll n)) ∧ w = w' := by
  go_enter Try.func43, Try.ntmps43
  go_wp2
  go_ret
  exact ⟨rfl, rfl⟩
theorem wpList_append_edge (w : World) {ops : Array Oper} {rest : List Oper} {o : Oper} {a : Act} {Q : Exit → Act → World → Prop} (hgd : o.guard = none) (s x : Operand)
    (ho : o.op = .call { callee := .builtin .append, args := #[s, x], argTypes := #[50, 50] }) (base : Nat) (v : Value) (L : List (Int × Int)) (hs : a.eval s = v) (hown : w.ownsRow base 55 2 v L.length (edgeVals L))
    (ad : Addr) (c : Nat) (hx : a.eval x = .slice (some ad) 1 c) (p : Int × Int) (hn0 : w.cell? ad = some (.int .i64 p.1)) (hn1 : w.cell? (ad.add 1) = some (.int .i64 p.2)) (hl : L.length ≤ 1048576) (hbase : base ≤ w.heap.size)
    (hK : ∀ v' w', w'.ownsRow base 55 2 v' (L ++ [p]).length (edgeVals (L ++ [p])) → w.grownBy w' v.ownBlock → (v'.ownBlock = v.ownBlock ∨ v'.ownBlock = some w.heap.size) → wpList Try.prog ops Q rest (a.put o.dst v') w') :
    wpList Try.prog ops Q (o :: rest) a w := by
  obtain ⟨i0, hi, hz0, hz1, hz2⟩ := info_parts info_Edge
  refine wpList_append_own_at w hgd s x 50 ho base 55 i0 _ 2 16 Try.underlying50 hi hz0 hz1 hz2 rfl (by decide) v L.length _ hs hown ad 1 c [.int .i64 p.1, .int .i64 p.2] hx rfl ?_ ?_ (by simp only [maxLen]; omega) (by omega) hbase ?_
  · intro j u hu
    match j, hu with
    | 0, hu =>
      obtain rfl : Value.int .i64 p.1 = u := by simpa using hu
      simpa [Addr.add] using hn0
    | 1, hu =>
      obtain rfl : Value.int .i64 p.2 = u := by simpa using hu
      exact hn1
    | j + 2, hu => simp at hu
  · intro u hu
    simp only [List.mem_cons, List.not_mem_nil, or_false] at hu
    rcases hu with rfl | rfl <;> rfl
  intro v' w' ho' hg hnil hloc
  exact hK v' w' (by rw [List.length_append, List.length_singleton, edgeVals_snoc]; exact ho') hg hloc
set_option maxRecDepth 100000 in
set_option maxHeartbeats 2000000 in
theorem sorted_bnd (base b n : Nat) (ks : List (Int × Int)) (F : Int × Int → Value) (G : Int × Int → List Int) (w : World) (hg : Groups w base b n ks F G) (hn : ks.length ≤ 1048576) :
    Calls Try.prog 42 #[.map (some b), .func (.func 54) #[] #[]] w fun e w' => ∃ v, e = .returned v ∧ w'.ownsRow w.heap.size 55 2 v (sortE (ks.filter fun p => qBnd (G p).length)).length (edgeVals (sortE (ks.filter fun p => qBnd (G p).length))) ∧ Below w.heap.size w w' := by
  have HM := Lib.hid hg.m
  have hblt := hg.m.lt
  have HNK := Lib.hid (show ks.Nodup from by obtain ⟨D, _, _, _, _, _, h, _⟩ := hg.m; exact h)
  have HFS := Lib.hid (show ∀ p, ∃ a cap, F p = .slice a (G p).length cap from fun p => own_slice (hg.own p))
  obtain ⟨q, hq⟩ : ∃ q : Int × Int → Bool, q = fun p => qBnd (G p).length := ⟨_, rfl⟩
  rw [← hq]
  have HIS := Lib.hid (show ∀ p a c W, Calls Try.prog 54 #[.slice a (G p).length c] W fun e w' => e = .returned (.bool (q p)) ∧ W = w' from fun p a c W => by rw [hq]; exact is_bnd a _ c W)
  obtain ⟨R, hR⟩ : ∃ R, R = sortE (ks.filter q) := ⟨_, rfl⟩
  rw [← hR]
  have HR := Lib.hid hR
  clear hg hq hR
  go_enter Try.func42, Try.ntmps42
  go_wp2_with (at_range; refine wpList_range_map _ rfl _ rfl b n ks F rfl (HM.out.kept (by repeat (first | exact Below.refl _ _ | refine Below.drew ?_ | refine Below.alloc ?_ (by first | exact Nat.le_refl _ | (simp; done) | (simp; omega) | omega) _ | refine Below.more ?_ (by first | exact Nat.le_refl _ | (simp; done) | (simp; omega) | omega) _ _ | refine Below.setCell ?_ (by first | exact Nat.le_refl _ | (simp; done) | (simp; omega) | omega) _ | assumption))) ?_; intro w0 cnt0 hrg0 hg0 hs0; rw [World.size_alloc] at hrg0 hs0 ⊢)
  go_frame
  have HRG0 := Lib.hid hrg0
  have HB0 := Lib.hid (show Below w.heap.size w w0 from Below.grown (Below.alloc (Below.refl _ _) (Nat.le_refl _) _) hg0 (by simp) (fun g e => by cases e))
  have HOW0 := Lib.hid (show w0.ownsRow w.heap.size 55 2 (.slice (some ⟨w.heap.size, 0, none⟩) 0 0) 0 [] from own_grown (by
      have hz := World.ownsRow_made (e := 55) (size := 2) (base := w.heap.size) w #[] 0 (by simp) (by decide) (by simp)
      simpa using hz) hg0 (fun b e => by cases e))
  clear hrg0 hg0 HM
  go_loopw [5] (fun out wr => ∃ (done : List (Int × Int)) (cnt : Nat), MapRg wr b (w.heap.size + 1) n ks F done cnt ∧ Below w.heap.size w wr ∧ wr.ownsRow w.heap.size 55 2 out (done.filter q).length (edgeVals (done.filter q))) (fun _ wr => wr.rangeLeft b (w.heap.size + 1))
  case atStart => exact ⟨[], cnt0, HRG0.out, HB0.out, HOW0.out⟩
  case round =>
    clear HRG0 HB0 HOW0 hs0
    obtain ⟨done, cnt, hrg, hbel, hown⟩ := hrel
    have HRG := Lib.hid hrg
    have HBEL := Lib.hid hbel
    have HOWN := Lib.hid hown
    clear hrg hbel hown
    go_wp2_with (at_next; refine wpList_next_map _ rfl _ rfl b (w.heap.size + 1) n ks F done cnt rfl HRG.out ?_ ?_)
    · intro hall
      have HALL := Lib.hid (show ∀ p, p ∈ ks → p ∈ done from fun ⟨a, b⟩ h => by first | exact hall _ h | exact hall a b h)
      have HL := Lib.hid (show sortE (done.filter q) = R from by
        rw [HR.out]
        obtain ⟨D, left, _, _, _, _, _, h6, h7⟩ := HRG.out
        refine sortE_congr (h6.filter _) (HNK.out.filter _) fun x => ?_
        rw [List.mem_filter, List.mem_filter]
        exact ⟨fun h => ⟨h7 x h.1, h.2⟩, fun h => ⟨HALL.out x h.1, h.2⟩⟩)
      have HLN := Lib.hid (show (done.filter q).length ≤ 1048576 from by
        obtain ⟨D, left, _, _, _, _, _, h6, h7⟩ := HRG.out
        have h8 : done.length ≤ ks.length := nodup_len h6 h7
        have h9 := List.length_filter_le q done
        omega)
      clear hall HALL
      obtain ⟨L, hL⟩ : ∃ L, L = done.filter q := ⟨_, rfl⟩
      rw [← hL] at HL HLN HOWN
      have HLE := Lib.hid (len_sortE L)
      clear hL
      go_wp2_with (go_at_call 56; refine (sortFunc_c w.heap.size _ L _ HOWN.out HLN.out).mono ?_; rintro e w1 ⟨rfl, ho1, hg1⟩; have HO1 := Lib.hid ho1; have HG1 := Lib.hid hg1; clear ho1 hg1)
      go_ret
      refine ⟨_, rfl, by rw [← HL.out, HLE.out]; exact HO1.out, Below.grown HBEL.out HG1.out HBEL.out.size (fun g e => (own_row HOWN.out g e).1)⟩
    · intro x y w1 cnt1 hpk hpd hrg1 hlt hgr hsz hen
      obtain ⟨af, cf, hf⟩ := HFS.out (x, y)
      rw [hf] at hen ⊢
      have HRG1 := Lib.hid hrg1
      have HB1 := Lib.hid (show Below w.heap.size w w1 from Below.grown HBEL.out hgr HBEL.out.size (fun g e => by cases e; omega))
      have HO1 := Lib.hid (own_grown HOWN.out hgr (fun g e => by
        cases e
        intro h
        obtain ⟨_, c2, fz2, hc2⟩ := own_row HOWN.out _ h
        exact (HRG.out.not_cells hc2).2 rfl))
      have HMW := Lib.hid HRG.out.left_eq
      have HLT := Lib.hid hlt
      have hwb := HB1.out.size
      have HLN := Lib.hid (show (done.filter q).length ≤ 1048576 from by
        obtain ⟨D, left, _, _, _, _, _, h6, h7⟩ := HRG.out
        have h8 : done.length ≤ ks.length := nodup_len h6 h7
        have h9 := List.length_filter_le q done
        omega)
      clear hrg1 hgr hlt HOWN HRG HBEL
      have HSN := Lib.hid (show (done ++ [(x, y)]).filter q = done.filter q ++ (if q (x, y) = true then [(x, y)] else []) from by rw [List.filter_append]; congr 1; simp [List.filter_cons])
      have HIS1 := Lib.hid (fun a c W => HIS.out (x, y) a c W)
      generalize (G (x, y)).length = m at *
      obtain ⟨L, hL⟩ : ∃ L, L = done.filter q := ⟨_, rfl⟩
      rw [← hL] at HLN HSN HO1
      clear hL
      cases hqp : q (x, y)
      · rw [hqp] at HIS1 HSN
        have HSN2 := Lib.hid (show (done ++ [(x, y)]).filter q = L from by rw [HSN.out]; simp)
        go_wp2_with (go_at_call 54; refine (HIS1.out _ _ _).mono ?_; rintro e w' ⟨rfl, rfl⟩)
        refine ⟨⟨done ++ [(x, y)], cnt1, HRG1.out.below (by repeat (first | exact Below.refl _ _ | refine Below.drew ?_ | refine Below.alloc ?_ (by first | exact Nat.le_refl _ | (simp; done) | (simp; omega) | omega) _ | refine Below.more ?_ (by first | exact Nat.le_refl _ | (simp; done) | (simp; omega) | omega) _ _ | refine Below.setCell ?_ (by first | exact Nat.le_refl _ | (simp; done) | (simp; omega) | omega) _ | assumption)), Below.trans HB1.out (by repeat (first | exact Below.refl _ _ | refine Below.drew ?_ | refine Below.alloc ?_ (by first | exact Nat.le_refl _ | (simp; done) | (simp; omega) | omega) _ | refine Below.more ?_ (by first | exact Nat.le_refl _ | (simp; done) | (simp; omega) | omega) _ _ | refine Below.setCell ?_ (by first | exact Nat.le_refl _ | (simp; done) | (simp; omega) | omega) _ | assumption)), by rw [HSN2.out]; exact own_kept HO1.out (by repeat (first | exact Below.refl _ _ | refine Below.drew ?_ | refine Below.alloc ?_ (by first | exact Nat.le_refl _ | (simp; done) | (simp; omega) | omega) _ | refine Below.more ?_ (by first | exact Nat.le_refl _ | (simp; done) | (simp; omega) | omega) _ _ | refine Below.setCell ?_ (by first | exact Nat.le_refl _ | (simp; done) | (simp; omega) | omega) _ | assumption))⟩, ?_⟩
        rw [(HRG1.out.below (show Below w1.heap.size w1 _ from (by repeat (first | exact Below.refl _ _ | refine Below.drew ?_ | refine Below.alloc ?_ (by first | exact Nat.le_refl _ | (simp; done) | (simp; omega) | omega) _ | refine Below.more ?_ (by first | exact Nat.le_refl _ | (simp; done) | (simp; omega) | omega) _ _ | refine Below.setCell ?_ (by first | exact Nat.le_refl _ | (simp; done) | (simp; omega) | omega) _ | assumption)))).left_eq, HMW.out]
        exact HLT.out
      · rw [hqp] at HIS1 HSN
        have HSN2 := Lib.hid (show (done ++ [(x, y)]).filter q = L ++ [(x, y)] from by rw [HSN.out]; simp)
        go_wp2_with (first | (go_at_call 54; refine (HIS1.out _ _ _).mono ?_; rintro e w' ⟨rfl, rfl⟩) | (at_builtin; go_loud (refine wpList_append_edge _ rfl _ _ rfl w.heap.size _ L rfl (own_kept HO1.out (by repeat (first | exact Below.refl _ _ | refine Below.drew ?_ | refine Below.alloc ?_ (by first | exact Nat.le_refl _ | (simp; done) | (simp; omega) | omega) _ | refine Below.more ?_ (by first | exact Nat.le_refl _ | (simp; done) | (simp; omega) | omega) _ _ | refine Below.setCell ?_ (by first | exact Nat.le_refl _ | (simp; done) | (simp; omega) | omega) _ | assumption))) _ 1 rfl (x, y) ?c1 ?c2 HLN.out ?c3 ?_)))
        case c3 => first | omega | (simp; omega)
        intro v' w' hp' hg' hloc'
        have HP' := Lib.hid hp'
        have HB' := Lib.hid (Below.grown (Below.trans HB1.out (show Below w.heap.size w1 _ from (by repeat (first | exact Below.refl _ _ | refine Below.drew ?_ | refine Below.alloc ?_ (by first | exact Nat.le_refl _ | (simp; done) | (simp; omega) | omega) _ | refine Below.more ?_ (by first | exact Nat.le_refl _ | (simp; done) | (simp; omega) | omega) _ _ | refine Below.setCell ?_ (by first | exact Nat.le_refl _ | (simp; done) | (simp; omega) | omega) _ | assumption)))) hg' (by first | omega | (simp; omega)) (fun b hb => (own_row HO1.out b hb).1))
        have HRG' := Lib.hid ((HRG1.out.below (show Below w1.heap.size w1 _ from (by repeat (first | exact Below.refl _ _ | refine Below.drew ?_ | refine Below.alloc ?_ (by first | exact Nat.le_refl _ | (simp; done) | (simp; omega) | omega) _ | refine Below.more ?_ (by first | exact Nat.le_refl _ | (simp; done) | (simp; omega) | omega) _ _ | refine Below.setCell ?_ (by first | exact Nat.le_refl _ | (simp; done) | (simp; omega) | omega) _ | assumption)))).kept hg' (fun e => by obtain ⟨_, c2, fz2, hc2⟩ := own_row HO1.out _ e.symm; exact (HRG1.out.not_cells hc2).1 rfl) (fun e => by obtain ⟨_, c2, fz2, hc2⟩ := own_row HO1.out _ e.symm; exact (HRG1.out.not_cells hc2).2 rfl))
        clear hp' hg' hloc'
        go_wp2
        refine ⟨⟨done ++ [(x, y)], cnt1, HRG'.out, HB'.out, by rw [HSN2.out, List.length_append, List.length_singleton]; exact HP'.out⟩, ?_⟩
        rw [HRG'.out.left_eq, HMW.out]
        exact HLT.out
set_option maxRecDepth 100000 in
set_option maxHeartbeats 2000000 in
theorem sorted_all (base b n : Nat) (ks : List (Int × Int)) (F : Int × Int → Value) (G : Int × Int → List Int) (w : World) (hg : Groups w base b n ks F G) (hn : ks.length ≤ 1048576) :
    Calls Try.prog 42 #[.map (some b), .func (.func 43) #[] #[]] w fun e w' => ∃ v, e = .returned v ∧ w'.ownsRow w.heap.size 55 2 v (sortE (ks.filter fun p => qAll (G p).length)).length (edgeVals (sortE (ks.filter fun p => qAll (G p).length))) ∧ Below w.heap.size w w' := by
  have HM := Lib.hid hg.m
  have hblt := hg.m.lt
  have HNK := Lib.hid (show ks.Nodup from by obtain ⟨D, _, _, _, _, _, h, _⟩ := hg.m; exact h)
  have HFS := Lib.hid (show ∀ p, ∃ a cap, F p = .slice a (G p).length cap from fun p => own_slice (hg.own p))
  obtain ⟨q, hq⟩ : ∃ q : Int × Int → Bool, q = fun p => qAll (G p).length := ⟨_, rfl⟩
  rw [← hq]
  have HIS := Lib.hid (show ∀ p a c W, Calls Try.prog 43 #[.slice a (G p).length c] W fun e w' => e = .returned (.bool (q p)) ∧ W = w' from fun p a c W => by rw [hq]; exact is_all a _ c W)
  obtain ⟨R, hR⟩ : ∃ R, R = sortE (ks.filter q) := ⟨_, rfl⟩
  rw [← hR]
  have HR := Lib.hid hR
  clear hg hq hR
  go_enter Try.func42, Try.ntmps42
  go_wp2_with (at_range; refine wpList_range_map _ rfl _ rfl b n ks F rfl (HM.out.kept (by repeat (first | exact Below.refl _ _ | refine Below.drew ?_ | refine Below.alloc ?_ (by first | exact Nat.le_refl _ | (simp; done) | (simp; omega) | omega) _ | refine Below.more ?_ (by first | exact Nat.le_refl _ | (simp; done) | (simp; omega) | omega) _ _ | refine Below.setCell ?_ (by first | exact Nat.le_refl _ | (simp; done) | (simp; omega) | omega) _ | assumption))) ?_; intro w0 cnt0 hrg0 hg0 hs0; rw [World.size_alloc] at hrg0 hs0 ⊢)
  go_frame
  have HRG0 := Lib.hid hrg0
  have HB0 := Lib.hid (show Below w.heap.size w w0 from Below.grown (Below.alloc (Below.refl _ _) (Nat.le_refl _) _) hg0 (by simp) (fun g e => by cases e))
  have HOW0 := Lib.hid (show w0.ownsRow w.heap.size 55 2 (.slice (some ⟨w.heap.size, 0, none⟩) 0 0) 0 [] from own_grown (by
      have hz := World.ownsRow_made (e := 55) (size := 2) (base := w.heap.size) w #[] 0 (by simp) (by decide) (by simp)
      simpa using hz) hg0 (fun b e => by cases e))
  clear hrg0 hg0 HM
  go_loopw [5] (fun out wr => ∃ (done : List (Int × Int)) (cnt : Nat), MapRg wr b (w.heap.size + 1) n ks F done cnt ∧ Below w.heap.size w wr ∧ wr.ownsRow w.heap.size 55 2 out (done.filter q).length (edgeVals (done.filter q))) (fun _ wr => wr.rangeLeft b (w.heap.size + 1))
  case atStart => exact ⟨[], cnt0, HRG0.out, HB0.out, HOW0.out⟩
  case round =>
    clear HRG0 HB0 HOW0 hs0
    obtain ⟨done, cnt, hrg, hbel, hown⟩ := hrel
    have HRG := Lib.hid hrg
    have HBEL := Lib.hid hbel
    have HOWN := Lib.hid hown
    clear hrg hbel hown
    go_wp2_with (at_next; refine wpList_next_map _ rfl _ rfl b (w.heap.size + 1) n ks F done cnt rfl HRG.out ?_ ?_)
    · intro hall
      have HALL := Lib.hid (show ∀ p, p ∈ ks → p ∈ done from fun ⟨a, b⟩ h => by first | exact hall _ h | exact hall a b h)
      have HL := Lib.hid (show sortE (done.filter q) = R from by
        rw [HR.out]
        obtain ⟨D, left, _, _, _, _, _, h6, h7⟩ := HRG.out
        refine sortE_congr (h6.filter _) (HNK.out.filter _) fun x => ?_
        rw [List.mem_filter, List.mem_filter]
        exact ⟨fun h => ⟨h7 x h.1, h.2⟩, fun h => ⟨HALL.out x h.1, h.2⟩⟩)
      have HLN := Lib.hid (show (done.filter q).length ≤ 1048576 from by
        obtain ⟨D, left, _, _, _, _, _, h6, h7⟩ := HRG.out
        have h8 : done.length ≤ ks.length := nodup_len h6 h7
        have h9 := List.length_filter_le q done
        omega)
      clear hall HALL
      obtain ⟨L, hL⟩ : ∃ L, L = done.filter q := ⟨_, rfl⟩
      rw [← hL] at HL HLN HOWN
      have HLE := Lib.hid (len_sortE L)
      clear hL
      go_wp2_with (go_at_call 56; refine (sortFunc_c w.heap.size _ L _ HOWN.out HLN.out).mono ?_; rintro e w1 ⟨rfl, ho1, hg1⟩; have HO1 := Lib.hid ho1; have HG1 := Lib.hid hg1; clear ho1 hg1)
      go_ret
      refine ⟨_, rfl, by rw [← HL.out, HLE.out]; exact HO1.out, Below.grown HBEL.out HG1.out HBEL.out.size (fun g e => (own_row HOWN.out g e).1)⟩
    · intro x y w1 cnt1 hpk hpd hrg1 hlt hgr hsz hen
      obtain ⟨af, cf, hf⟩ := HFS.out (x, y)
      rw [hf] at hen ⊢
      have HRG1 := Lib.hid hrg1
      have HB1 := Lib.hid (show Below w.heap.size w w1 from Below.grown HBEL.out hgr HBEL.out.size (fun g e => by cases e; omega))
      have HO1 := Lib.hid (own_grown HOWN.out hgr (fun g e => by
        cases e
        intro h
        obtain ⟨_, c2, fz2, hc2⟩ := own_row HOWN.out _ h
        exact (HRG.out.not_cells hc2).2 rfl))
      have HMW := Lib.hid HRG.out.left_eq
      have HLT := Lib.hid hlt
      have hwb := HB1.out.size
      have HLN := Lib.hid (show (done.filter q).length ≤ 1048576 from by
        obtain ⟨D, left, _, _, _, _, _, h6, h7⟩ := HRG.out
        have h8 : done.length ≤ ks.length := nodup_len h6 h7
        have h9 := List.length_filter_le q done
        omega)
      clear hrg1 hgr hlt HOWN HRG HBEL
      have HSN := Lib.hid (show (done ++ [(x, y)]).filter q = done.filter q ++ (if q (x, y) = true then [(x, y)] else []) from by rw [List.filter_append]; congr 1; simp [List.filter_cons])
      have HIS1 := Lib.hid (fun a c W => HIS.out (x, y) a c W)
      generalize (G (x, y)).length = m at *
      obtain ⟨L, hL⟩ : ∃ L, L = done.filter q := ⟨_, rfl⟩
      rw [← hL] at HLN HSN HO1
      clear hL
      cases hqp : q (x, y)
      · rw [hqp] at HIS1 HSN
        have HSN2 := Lib.hid (show (done ++ [(x, y)]).filter q = L from by rw [HSN.out]; simp)
        go_wp2_with (go_at_call 43; refine (HIS1.out _ _ _).mono ?_; rintro e w' ⟨rfl, rfl⟩)
        refine ⟨⟨done ++ [(x, y)], cnt1, HRG1.out.below (by repeat (first | exact Below.refl _ _ | refine Below.drew ?_ | refine Below.alloc ?_ (by first | exact Nat.le_refl _ | (simp; done) | (simp; omega) | omega) _ | refine Below.more ?_ (by first | exact Nat.le_refl _ | (simp; done) | (simp; omega) | omega) _ _ | refine Below.setCell ?_ (by first | exact Nat.le_refl _ | (simp; done) | (simp; omega) | omega) _ | assumption)), Below.trans HB1.out (by repeat (first | exact Below.refl _ _ | refine Below.drew ?_ | refine Below.alloc ?_ (by first | exact Nat.le_refl _ | (simp; done) | (simp; omega) | omega) _ | refine Below.more ?_ (by first | exact Nat.le_refl _ | (simp; done) | (simp; omega) | omega) _ _ | refine Below.setCell ?_ (by first | exact Nat.le_refl _ | (simp; done) | (simp; omega) | omega) _ | assumption)), by rw [HSN2.out]; exact own_kept HO1.out (by repeat (first | exact Below.refl _ _ | refine Below.drew ?_ | refine Below.alloc ?_ (by first | exact Nat.le_refl _ | (simp; done) | (simp; omega) | omega) _ | refine Below.more ?_ (by first | exact Nat.le_refl _ | (simp; done) | (simp; omega) | omega) _ _ | refine Below.setCell ?_ (by first | exact Nat.le_refl _ | (simp; done) | (simp; omega) | omega) _ | assumption))⟩, ?_⟩
        rw [(HRG1.out.below (show Below w1.heap.size w1 _ from (by repeat (first | exact Below.refl _ _ | refine Below.drew ?_ | refine Below.alloc ?_ (by first | exact Nat.le_refl _ | (simp; done) | (simp; omega) | omega) _ | refine Below.more ?_ (by first | exact Nat.le_refl _ | (simp; done) | (simp; omega) | omega) _ _ | refine Below.setCell ?_ (by first | exact Nat.le_refl _ | (simp; done) | (simp; omega) | omega) _ | assumption)))).left_eq, HMW.out]
        exact HLT.out
      · rw [hqp] at HIS1 HSN
        have HSN2 := Lib.hid (show (done ++ [(x, y)]).filter q = L ++ [(x, y)] from by rw [HSN.out]; simp)
        go_wp2_with (first | (go_at_call 43; refine (HIS1.out _ _ _).mono ?_; rintro e w' ⟨rfl, rfl⟩) | (at_builtin; go_loud (refine wpList_append_edge _ rfl _ _ rfl w.heap.size _ L rfl (own_kept HO1.out (by repeat (first | exact Below.refl _ _ | refine Below.drew ?_ | refine Below.alloc ?_ (by first | exact Nat.le_refl _ | (simp; done) | (simp; omega) | omega) _ | refine Below.more ?_ (by first | exact Nat.le_refl _ | (simp; done) | (simp; omega) | omega) _ _ | refine Below.setCell ?_ (by first | exact Nat.le_refl _ | (simp; done) | (simp; omega) | omega) _ | assumption))) _ 1 rfl (x, y) ?c1 ?c2 HLN.out ?c3 ?_)))
        case c3 => first | omega | (simp; omega)
        intro v' w' hp' hg' hloc'
        have HP' := Lib.hid hp'
        have HB' := Lib.hid (Below.grown (Below.trans HB1.out (show Below w.heap.size w1 _ from (by repeat (first | exact Below.refl _ _ | refine Below.drew ?_ | refine Below.alloc ?_ (by first | exact Nat.le_refl _ | (simp; done) | (simp; omega) | omega) _ | refine Below.more ?_ (by first | exact Nat.le_refl _ | (simp; done) | (simp; omega) | omega) _ _ | refine Below.setCell ?_ (by first | exact Nat.le_refl _ | (simp; done) | (simp; omega) | omega) _ | assumption)))) hg' (by first | omega | (simp; omega)) (fun b hb => (own_row HO1.out b hb).1))
        have HRG' := Lib.hid ((HRG1.out.below (show Below w1.heap.size w1 _ from (by repeat (first | exact Below.refl _ _ | refine Below.drew ?_ | refine Below.alloc ?_ (by first | exact Nat.le_refl _ | (simp; done) | (simp; omega) | omega) _ | refine Below.more ?_ (by first | exact Nat.le_refl _ | (simp; done) | (simp; omega) | omega) _ _ | refine Below.setCell ?_ (by first | exact Nat.le_refl _ | (simp; done) | (simp; omega) | omega) _ | assumption)))).kept hg' (fun e => by obtain ⟨_, c2, fz2, hc2⟩ := own_row HO1.out _ e.symm; exact (HRG1.out.not_cells hc2).1 rfl) (fun e => by obtain ⟨_, c2, fz2, hc2⟩ := own_row HO1.out _ e.symm; exact (HRG1.out.not_cells hc2).2 rfl))
        clear hp' hg' hloc'
        go_wp2
        refine ⟨⟨done ++ [(x, y)], cnt1, HRG'.out, HB'.out, by rw [HSN2.out, List.length_append, List.length_singleton]; exact HP'.out⟩, ?_⟩
        rw [HRG'.out.left_eq, HMW.out]
        exact HLT.out
end Go.Proofs.Ytpfmcobkfofbjaa
namespace Go.Proofs.Ytpfmcobkfofbjaa
open Go Go.RowKit
def PairIn (w : World) (lo hi : Nat) (a : Option Addr) (p : Int × Int) : Prop := ∃ g, a = some ⟨g, 0, none⟩ ∧ lo ≤ g ∧ g < hi ∧ w.heap[g]? = some (.cells #[.int .i64 p.1, .int .i64 p.2] 3 (0, 0))
structure PairsIn (w : World) (lo hi : Nat) (v : Value) (L : List (Int × Int)) (A : Nat → Option Addr) : Prop where
  own : w.ownsRow lo 57 1 v L.length (slices2 A L.length)
  top : ∀ b, v.ownBlock = some b → b < hi
  pair : ∀ i, i < L.length → PairIn w lo hi (A i) (L.getD i (0, 0))
theorem PairIn.grown {w w' : World} {lo hi : Nat} {a : Option Addr} {p : Int × Int} {row : Option Nat} (h : PairIn w lo hi a p) (hg : w.grownBy w' row) (hr : ∀ b, row = some b → (∃ c fz, w.heap[b]? = some (.cells c 57 fz)) ∨ b < lo ∨ hi ≤ b) : PairIn w' lo hi a p := by
  obtain ⟨g, rfl, hl, hh, hc⟩ := h
  refine ⟨g, rfl, hl, hh, ?_⟩
  rw [hg.block g (Array.getElem?_eq_some_iff.1 hc).1 (fun e => ?_)]
  · exact hc
  · rcases hr g e.symm with ⟨c, fz, he⟩ | h | h
    · rw [hc] at he
      simp only [Option.some.injEq, Obj.cells.injEq] at he
      exact absurd he.2.1 (by decide)
    · omega
    · omega
theorem PairIn.mono {w : World} {lo hi hi' : Nat} {a : Option Addr} {p : Int × Int} (h : PairIn w lo hi a p) (hh : hi ≤ hi') : PairIn w lo hi' a p := by
  obtain ⟨g, rfl, hl, h2, hc⟩ := h
  exact ⟨g, rfl, hl, by omega, hc⟩
theorem PairsIn.mono {w : World} {lo hi hi' : Nat} {v : Value} {L : List (Int × Int)} {A : Nat → Option Addr} (h : PairsIn w lo hi v L A) (hh : hi ≤ hi') : PairsIn w lo hi' v L A :=
  ⟨h.own, fun b hb => Nat.lt_of_lt_of_le (h.top b hb) hh, fun i hi => (h.pair i hi).mono hh⟩
theorem PairsIn.grown {w w' : World} {lo hi : Nat} {v : Value} {L : List (Int × Int)} {A : Nat → Option Addr} {row : Option Nat} (h : PairsIn w lo hi v L A) (hg : w.grownBy w' row) (hr : ∀ b, row = some b → b < lo ∨ hi ≤ b) : PairsIn w' lo hi v L A := by
  refine ⟨own_grown h.own hg (fun b hb e => ?_), h.top, fun i hi => (h.pair i hi).grown hg (fun b hb => Or.inr (hr b hb))⟩
  have h1 := (own_row h.own b e).1
  have h2 := h.top b e
  rcases hr b hb with h3 | h3 <;> omega
theorem PairsIn.below {w w' : World} {lo hi : Nat} {v : Value} {L : List (Int × Int)} {A : Nat → Option Addr} (h : PairsIn w lo hi v L A) (hb : Below w.heap.size w w') : PairsIn w' lo hi v L A :=
  h.grown (grownBy_of_below hb) (fun _ e => by cases e)
theorem PairsIn.lt {w : World} {lo hi : Nat} {v : Value} {L : List (Int × Int)} {A : Nat → Option Addr} (h : PairsIn w lo hi v L A) : ∀ b, v.ownBlock = some b → lo ≤ b ∧ b < w.heap.size := by
  intro b hb
  obtain ⟨h1, c, fz, h2⟩ := own_row h.own b hb
  exact ⟨h1, (Array.getElem?_eq_some_iff.1 h2).1⟩
theorem PairsIn.nil {w : World} {lo hi : Nat} {g : Nat} (hb : lo ≤ g) (hh : g < hi) (hg : w.heap[g]? = some (.cells #[] 57 (0, 0))) : PairsIn w lo hi (.slice (some ⟨g, 0, none⟩) 0 0) [] (fun _ => none) :=
  ⟨⟨rfl, .inr ⟨g, 0, #[], rfl, hb, hg, Nat.le_refl _, by decide, rfl, rfl⟩⟩, fun b e => by simp only [Value.ownBlock, Option.some.injEq] at e; omega, fun i hi => absurd hi (Nat.not_lt_zero _)⟩
theorem PairsIn.form {w : World} {lo hi : Nat} {v : Value} {L : List (Int × Int)} {A : Nat → Option Addr} (h : PairsIn w lo hi v L A) : ∃ a cap, v = .slice a L.length cap := by
  obtain ⟨_, ho⟩ := h.own
  rcases ho with ⟨rfl, h0⟩ | ⟨g, cap, cur, rfl, _⟩
  · exact ⟨none, 0, by rw [h0]⟩
  · exact ⟨_, _, rfl⟩
/-- What is read at place i. -/
theorem PairsIn.read {w : World} {lo hi : Nat} {v : Value} {L : List (Int × Int)} {A : Nat → Option Addr} (h : PairsIn w lo hi v L A) {i : Nat} (hi' : i < L.length) :
    ∃ g cap u, v = .slice (some ⟨g, 0, none⟩) L.length cap ∧ A i = some ⟨u, 0, none⟩ ∧ g < w.heap.size ∧ u < w.heap.size ∧ w.cell? ⟨g, i, none⟩ = some (.slice (some ⟨u, 0, none⟩) 2 2) ∧ w.cell? ⟨u, 0, none⟩ = some (.int .i64 (L.getD i (0, 0)).1) ∧ w.cell? ⟨u, 1, none⟩ = some (.int .i64 (L.getD i (0, 0)).2) := by
  obtain ⟨hl, ho⟩ := h.own
  rcases ho with ⟨_, h0⟩ | ⟨g, cap, cur, rfl, hb, hg, hnc, hcm, hcs, ht⟩
  · omega
  · obtain ⟨u, hu, _, _, hc⟩ := h.pair i hi'
    refine ⟨g, cap, u, rfl, hu, (Array.getElem?_eq_some_iff.1 hg).1, (Array.getElem?_eq_some_iff.1 hc).1, ?_, ?_, ?_⟩
    · rw [cell_of_row w g i cur _ (0, 0) hg]
      have h1 : (slices2 A L.length)[i]? = some (.slice (A i) 2 2) := by simp [slices2, hi']
      rw [← ht, List.getElem?_take, if_pos (by omega)] at h1
      rw [← hu]
      simpa using h1
    · rw [cell_of_row w u 0 _ _ (0, 0) hc]; rfl
    · rw [cell_of_row w u 1 _ _ (0, 0) hc]; rfl
/-- A row gets one pair more. -/
theorem wpList_append_pairIn (w : World) {ops : Array Oper} {rest : List Oper} {o : Oper} {a : Act} {Q : Exit → Act → World → Prop} (hgd : o.guard = none) (s x : Operand)
    (ho : o.op = .call { callee := .builtin .append, args := #[s, x], argTypes := #[24, 24] }) (lo : Nat) (v : Value) (L : List (Int × Int)) (A : Nat → Option Addr) (hs : a.eval s = v) (h : PairsIn w lo w.heap.size v L A)
    (ad : Addr) (c : Nat) (hx : a.eval x = .slice (some ad) 1 c) (g : Nat) (hn : w.cell? ad = some (.slice (some ⟨g, 0, none⟩) 2 2)) (p : Int × Int) (hp : PairIn w lo w.heap.size (some ⟨g, 0, none⟩) p) (hl : L.length ≤ 1048576) (hbase : lo ≤ w.heap.size)
    (hK : ∀ v' w', PairsIn w' lo w'.heap.size v' (L ++ [p]) (upd A L.length (some ⟨g, 0, none⟩)) → w.grownBy w' v.ownBlock → (v'.ownBlock = v.ownBlock ∨ v'.ownBlock = some w.heap.size) → (∀ b, v.ownBlock = some b → lo ≤ b ∧ ∃ c fz, w.heap[b]? = some (.cells c 57 fz)) → wpList Try.prog ops Q rest (a.put o.dst v') w') :
    wpList Try.prog ops Q (o :: rest) a w := by
  obtain ⟨i0, hi, hz0, hz1, hz2⟩ := info_parts info_IntS
  have hrow := own_row h.own
  refine wpList_append_own_at w hgd s x 24 ho lo 57 i0 _ 1 24 Try.underlying24 hi hz0 hz1 hz2 rfl (by decide) v L.length _ hs h.own ad 1 c [.slice (some ⟨g, 0, none⟩) 2 2] hx rfl ?_ ?_ (by simp only [maxLen]; omega) (by omega) hbase ?_
  · intro j u hu
    match j, hu with
    | 0, hu =>
      obtain rfl : Value.slice (some ⟨g, 0, none⟩) 2 2 = u := by simpa using hu
      simpa [Addr.add] using hn
    | j + 1, hu => simp at hu
  · intro u hu
    obtain rfl : u = Value.slice (some ⟨g, 0, none⟩) 2 2 := by simpa using hu
    rfl
  intro v' w' ho' hg hnil hloc
  refine hK v' w' ⟨?_, fun b hb => ?_, fun i hi' => ?_⟩ hg hloc (fun b hb => hrow b hb)
  · rw [List.length_append, List.length_singleton, slices2_succ, upd_self, slices2_congr (fun i hi => upd_lt hi)]
    exact ho'
  · obtain ⟨_, c, fz, h2⟩ := own_row ho' b hb
    exact (Array.getElem?_eq_some_iff.1 h2).1
  · rw [List.length_append, List.length_singleton] at hi'
    rw [getD_snoc]
    by_cases e : i = L.length
    · subst e
      rw [if_pos rfl, upd_self]
      exact (hp.grown hg (fun b hb => Or.inl (hrow b hb).2)).mono hg.size
    · rw [if_neg e, upd_lt (by omega)]
      exact ((h.pair i (by omega)).grown hg (fun b hb => Or.inl (hrow b hb).2)).mono hg.size
end Go.Proofs.Ytpfmcobkfofbjaa
namespace Go.Proofs.Ytpfmcobkfofbjaa
open Go Go.RowKit Go.Maps
noncomputable def efacesD (p : MeshD) (a b : Int) : List Int := if meshOkB p then hitsTo p.faces (und (a, b)) p.nF else []
theorem efacesD_len (p : MeshD) (a b : Int) : (efacesD p a b).length ≤ 1048576 := by
  unfold efacesD
  split
  · have := hitsTo_len p.faces (und (a, b)) p.nF
    have h := (meshOkB_true.1 (by assumption)).2.1
    omega
  · simp
theorem und_iff (x y a b : Int) : und (x, y) = und (a, b) ↔ (x = a ∧ y = b) ∨ (x = b ∧ y = a) := by
  simp only [und, Prod.mk.injEq]; omega
theorem wfE_und {a b : Int} (ha : (Lit.int .i64 a).wf = true) (hb : (Lit.int .i64 b).wf = true) : wfE (und (a, b)) := by
  unfold und wfE
  simp only [Int.min_def, Int.max_def]
  split <;> exact ⟨by assumption, by assumption⟩
theorem wpList_append_intg (w : World) {ops : Array Oper} {rest : List Oper} {o : Oper} {a : Act} {Q : Exit → Act → World → Prop} (hgd : o.guard = none) (s x : Operand)
    (ho : o.op = .call { callee := .builtin .append, args := #[s, x], argTypes := #[57, 57] }) (base : Nat) (v : Value) (n : Nat) (xs : List Value) (hs : a.eval s = v) (hown : w.ownsRow base 3 1 v n xs)
    (ad : Addr) (c : Nat) (hx : a.eval x = .slice (some ad) 1 c) (y : Int) (hn : w.cell? ad = some (.int .i64 y)) (hl : n ≤ 1048576) (hbase : base ≤ w.heap.size)
    (hK : ∀ v' w', w'.ownsRow base 3 1 v' (n + 1) (xs ++ [.int .i64 y]) → w.grownBy w' v.ownBlock → (v'.ownBlock = v.ownBlock ∨ v'.ownBlock = some w.heap.size) → wpList Try.prog ops Q rest (a.put o.dst v') w') :
    wpList Try.prog ops Q (o :: rest) a w := by
  obtain ⟨i0, hi, hz0, hz1, hz2⟩ := info_parts info_IntA
  refine wpList_append_own_at w hgd s x 57 ho base 3 i0 _ 1 8 Try.underlying57 hi hz0 hz1 hz2 rfl (by decide) v n _ hs hown ad 1 c [.int .i64 y] hx rfl ?_ ?_ (by simp only [maxLen]; omega) (by omega) hbase ?_
  · intro j u hu
    match j, hu with
    | 0, hu =>
      obtain rfl : Value.int .i64 y = u := by simpa using hu
      simpa [Addr.add] using hn
    | j + 1, hu => simp at hu
  · intro u hu
    obtain rfl : u = Value.int .i64 y := by simpa using hu
    rfl
  intro v' w' ho' hg hnil hloc
  exact hK v' w' ho' hg hloc
end Go.Proofs.Ytpfmcobkfofbjaa
namespace Go.Proofs.Ytpfmcobkfofbjaa
open Go Go.RowKit Go.Maps
/-- The edges with one face. -/
def bndL (s : List (List Int)) (k : Nat) : List (Int × Int) := (edgesL s k).filter fun p => decide ((hitsTo s p k).length = 1)
theorem bndL_len (s : List (List Int)) (k : Nat) : (bndL s k).length ≤ 4 * k := Nat.le_trans (List.length_filter_le _ _) (edgesL_len s k)
theorem edgesL_le {s : List (List Int)} {k : Nat} (hk : k ≤ 64) : (edgesL s k).length ≤ 1048576 := by have := edgesL_len s k; omega
theorem bndL_le {s : List (List Int)} {k : Nat} (hk : k ≤ 64) : (bndL s k).length ≤ 1048576 := by have := bndL_len s k; omega
theorem sort_bnd (s : List (List Int)) (k : Nat) : sortE ((keysTo s k).filter fun p => qBnd (hitsTo s p k).length) = bndL s k := sortE_filter s k _
theorem sort_all (s : List (List Int)) (k : Nat) : sortE ((keysTo s k).filter fun p => qAll (hitsTo s p k).length) = edgesL s k := by
  rw [sortE_filter]
  exact List.filter_eq_self.2 fun _ _ => rfl
theorem own_base {w : World} {B base : Nat} {e : TypeId} {s : Nat} {v : Value} {n : Nat} {xs : List Value} (h : w.ownsRow B e s v n xs) (hb : base ≤ B) : w.ownsRow base e s v n xs :=
  ⟨h.1, h.2.imp id fun ⟨g, cap, cur, e1, hbg, r⟩ => ⟨g, cap, cur, e1, Nat.le_trans hb hbg, r⟩⟩
noncomputable def edgesD (p : MeshD) : List (Int × Int) := if meshOkB p then edgesL p.faces p.nF else []
noncomputable def bndD (p : MeshD) : List (Int × Int) := if meshOkB p then bndL p.faces p.nF else []
noncomputable def closedD (p : MeshD) : Bool := meshOkB p && decide (0 < p.nF) && decide ((bndD p).length = 0)
theorem edgesD_le (p : MeshD) : (edgesD p).length ≤ 256 := by
  unfold edgesD
  split
  · have := edgesL_len p.faces p.nF
    have := (meshOkB_true.1 (by assumption)).2.1
    omega
  · simp
theorem bndD_le (p : MeshD) : (bndD p).length ≤ 256 := by
  unfold bndD
  split
  · have := bndL_len p.faces p.nF
    have := (meshOkB_true.1 (by assumption)).2.1
    omega
  · simp
set_option maxRecDepth 100000 in
set_option maxHeartbeats 1000000 in
theorem impl_bnd_c (v : Value) (p : MeshD) (w : World) (hr : MeshR w v p) (hs : MeshSz 1048576 p) (hok : meshOk p) :
    Calls Try.prog 32 #[v] w fun e w' => ∃ u, e = .returned u ∧ w'.ownsRow (w.heap.size + 1) 55 2 u (bndL p.faces p.nF).length (edgeVals (bndL p.faces p.nF)) ∧ Below w.heap.size w w' := by
  have HT := Lib.hid (fun (W : World) (h : Below w.heap.size w W) => edgeTable_c v p W (hr.below h) hs hok)
  have HKL := Lib.hid (show (keysTo p.faces p.nF).length ≤ 1048576 from by rw [← edges_len]; exact edgesL_le hok.2.1)
  obtain ⟨a, c, a', c', rfl, _, _⟩ := hr
  obtain ⟨R, hR⟩ : ∃ R, R = bndL p.faces p.nF := ⟨_, rfl⟩
  rw [← hR]
  have HR := Lib.hid (hR.trans (sort_bnd p.faces p.nF).symm)
  clear hR hs hok
  go_enter Try.func32, Try.ntmps32
  go_wp2_with (first | (go_at_call 20; refine (HT.out _ (by repeat (first | exact Below.refl _ _ | refine Below.drew ?_ | refine Below.alloc ?_ (by first | exact Nat.le_refl _ | (simp; done) | (simp; omega) | omega) _ | refine Below.more ?_ (by first | exact Nat.le_refl _ | (simp; done) | (simp; omega) | omega) _ _ | refine Below.setCell ?_ (by first | exact Nat.le_refl _ | (simp; done) | (simp; omega) | omega) _ | assumption))).mono ?_; rintro e wn ⟨b, F, rfl, hg, hb0, hbn⟩; have HG := Lib.hid hg; have HBN := Lib.hid hbn; clear hg hbn) | (go_at_call 42; refine (sorted_bnd _ b _ _ F _ _ HG.out HKL.out).mono ?_; rintro e w2 ⟨u, rfl, ho, hb2⟩; have HO := Lib.hid ho; have HB2 := Lib.hid hb2; clear ho hb2))
  go_ret
  have hs1 := HBN.out.size
  simp only [World.size_alloc] at hs1
  exact ⟨u, rfl, by rw [HR.out]; exact own_base HO.out (by omega), Below.trans (Below.trans (show Below w.heap.size w _ from (by repeat (first | exact Below.refl _ _ | refine Below.drew ?_ | refine Below.alloc ?_ (by first | exact Nat.le_refl _ | (simp; done) | (simp; omega) | omega) _ | refine Below.more ?_ (by first | exact Nat.le_refl _ | (simp; done) | (simp; omega) | omega) _ _ | refine Below.setCell ?_ (by first | exact Nat.le_refl _ | (simp; done) | (simp; omega) | omega) _ | assumption))) (HBN.out.mono (by simp))) (HB2.out.mono (by omega))⟩
set_option maxRecDepth 100000 in
set_option maxHeartbeats 1000000 in
theorem impl_all_c (v : Value) (p : MeshD) (w : World) (hr : MeshR w v p) (hs : MeshSz 1048576 p) (hok : meshOk p) :
    Calls Try.prog 21 #[v] w fun e w' => ∃ u, e = .returned u ∧ w'.ownsRow (w.heap.size + 1) 55 2 u (edgesL p.faces p.nF).length (edgeVals (edgesL p.faces p.nF)) ∧ Below w.heap.size w w' := by
  have HT := Lib.hid (fun (W : World) (h : Below w.heap.size w W) => edgeTable_c v p W (hr.below h) hs hok)
  have HKL := Lib.hid (show (keysTo p.faces p.nF).length ≤ 1048576 from by rw [← edges_len]; exact edgesL_le hok.2.1)
  obtain ⟨a, c, a', c', rfl, _, _⟩ := hr
  obtain ⟨R, hR⟩ : ∃ R, R = edgesL p.faces p.nF := ⟨_, rfl⟩
  rw [← hR]
  have HR := Lib.hid (hR.trans (sort_all p.faces p.nF).symm)
  clear hR hs hok
  go_enter Try.func21, Try.ntmps21
  go_wp2_with (first | (go_at_call 20; refine (HT.out _ (by repeat (first | exact Below.refl _ _ | refine Below.drew ?_ | refine Below.alloc ?_ (by first | exact Nat.le_refl _ | (simp; done) | (simp; omega) | omega) _ | refine Below.more ?_ (by first | exact Nat.le_refl _ | (simp; done) | (simp; omega) | omega) _ _ | refine Below.setCell ?_ (by first | exact Nat.le_refl _ | (simp; done) | (simp; omega) | omega) _ | assumption))).mono ?_; rintro e wn ⟨b, F, rfl, hg, hb0, hbn⟩; have HG := Lib.hid hg; have HBN := Lib.hid hbn; clear hg hbn) | (go_at_call 42; refine (sorted_all _ b _ _ F _ _ HG.out HKL.out).mono ?_; rintro e w2 ⟨u, rfl, ho, hb2⟩; have HO := Lib.hid ho; have HB2 := Lib.hid hb2; clear ho hb2))
  go_ret
  have hs1 := HBN.out.size
  simp only [World.size_alloc] at hs1
  exact ⟨u, rfl, by rw [HR.out]; exact own_base HO.out (by omega), Below.trans (Below.trans (show Below w.heap.size w _ from (by repeat (first | exact Below.refl _ _ | refine Below.drew ?_ | refine Below.alloc ?_ (by first | exact Nat.le_refl _ | (simp; done) | (simp; omega) | omega) _ | refine Below.more ?_ (by first | exact Nat.le_refl _ | (simp; done) | (simp; omega) | omega) _ _ | refine Below.setCell ?_ (by first | exact Nat.le_refl _ | (simp; done) | (simp; omega) | omega) _ | assumption))) (HBN.out.mono (by simp))) (HB2.out.mono (by omega))⟩
theorem PairsIn.nilv {w : World} {lo hi : Nat} : PairsIn w lo hi (.slice none 0 0) [] (fun _ => none) :=
  ⟨World.ownsRow_nil _ _ _ _, fun b e => by simp [Value.ownBlock] at e, fun i hi => absurd hi (Nat.not_lt_zero _)⟩
theorem PairsIn.lower {w : World} {lo lo' hi : Nat} {v : Value} {L : List (Int × Int)} {A : Nat → Option Addr} (h : PairsIn w lo hi v L A) (hl : lo' ≤ lo) : PairsIn w lo' hi v L A :=
  ⟨own_base h.own hl, h.top, fun i hi => by obtain ⟨g, a, b, c, d⟩ := h.pair i hi; exact ⟨g, a, Nat.le_trans hl b, c, d⟩⟩
/-- Rows of pairs of one's own come back, no two one and the same. -/
def GivesPairs (w : World) (L : List (Int × Int)) (e : Ending) (w' : World) : Prop :=
  ∃ v A, e = .returned v ∧ PairsIn w' w.heap.size w'.heap.size v L A ∧ (∀ i j, i < j → j < L.length → A i ≠ A j) ∧ Below w.heap.size w w'
set_option maxRecDepth 100000 in
set_option maxHeartbeats 1000000 in
theorem pairs_c (u : Value) (L : List (Int × Int)) (base : Nat) (w : World) (ho : w.ownsRow base 55 2 u L.length (edgeVals L)) (hl : L.length ≤ 1000) :
    Calls Try.prog 28 #[u] w (GivesPairs w L) := by
  have HX := Lib.hid (show Sl w (match u with | .slice a _ _ => a | _ => none) 2 L.length (edgeAt L) from by
    obtain ⟨a, cap, rfl, h⟩ := ow_of_ownsRow ho (flat_get (s := 2) (n := L.length) (C := edgeAt L) (fun _ _ => rfl))
    exact h.sl)
  obtain ⟨a, cap, rfl⟩ := own_slice ho
  dsimp only at HX
  clear ho
  have HTK := Lib.hid (show ∀ k, k < L.length → L.take (k + 1) = L.take k ++ [L.getD k (0, 0)] from fun k hk => by
    rw [List.take_add_one, List.getElem?_eq_getElem hk, List.getD_eq_getElem?_getD, List.getElem?_eq_getElem hk]; rfl)
  have HTL := Lib.hid (show ∀ k, k ≤ L.length → (L.take k).length = k from fun k hk => by rw [List.length_take]; omega)
  have HTA := Lib.hid (show L.take L.length = L from List.take_length)
  generalize hn : L.length = n at *
  have HN := Lib.hid hn
  clear hn
  go_enter Try.func28, Try.ntmps28
  go_wp2
  go_loopw [3, 9] (fun out i wr => ∃ (k : Nat) (A : Nat → Option Addr), k ≤ n ∧ i = .int .i64 k ∧ Below w.heap.size w wr ∧ PairsIn wr w.heap.size wr.heap.size out (L.take k) A ∧ Hid (∀ i j, i < j → j < k → A i ≠ A j)) (fun _ i _ => n - (intOf i).toNat)
  case atStart => exact ⟨0, fun _ => none, Nat.zero_le _, rfl, (by repeat (first | exact Below.refl _ _ | refine Below.drew ?_ | refine Below.alloc ?_ (by first | exact Nat.le_refl _ | (simp; done) | (simp; omega) | omega) _ | refine Below.more ?_ (by first | exact Nat.le_refl _ | (simp; done) | (simp; omega) | omega) _ _ | refine Below.setCell ?_ (by first | exact Nat.le_refl _ | (simp; done) | (simp; omega) | omega) _ | assumption)), PairsIn.nil (Nat.le_refl _) (by simp) (heap_at_new rfl), Lib.hid (fun i j _ h => absurd h (Nat.not_lt_zero _))⟩
  case round =>
    obtain ⟨k, A, hk, rfl, hbel, hpr, HDI⟩ := hrel
    have HBEL := Lib.hid hbel
    have HPR := Lib.hid hpr
    have hbs := hbel.size
    clear hbel hpr
    by_cases hlt : k < n
    · have hk1 : (k : Int) < (n : Int) := by omega
      obtain ⟨b, o, rfl, hb, hc⟩ := HX.out.below HBEL.out (by omega)
      have c0 : wr.cell? ⟨b, o + k * 2, none⟩ = some (.int .i64 (L.getD k (0, 0)).1) := hc k hlt 0 (by omega)
      have c1 : wr.cell? ⟨b, o + k * 2 + 1, none⟩ = some (.int .i64 (L.getD k (0, 0)).2) := hc k hlt 1 (by omega)
      clear hc
      have HST := Lib.hid (HTK.out k hlt)
      have hlen := HTL.out k hk
      generalize L.getD k (0, 0) = p at *
      obtain ⟨x, y⟩ := p
      dsimp only at c0 c1
      have HXS := Lib.hid (rfl : L.take k = L.take k)
      generalize hxs : L.take k = xs at *
      clear hxs HXS
      have hlq : xs.length ≤ 1048576 := by omega
      have HLE := Lib.hid hlen
      clear hlen
      go_wp2_with (at_builtin; go_loud (refine wpList_append_pairIn _ rfl _ _ rfl w.heap.size _ xs A rfl ((HPR.out.below (by repeat (first | exact Below.refl _ _ | refine Below.drew ?_ | refine Below.alloc ?_ (by first | exact Nat.le_refl _ | (simp; done) | (simp; omega) | omega) _ | refine Below.more ?_ (by first | exact Nat.le_refl _ | (simp; done) | (simp; omega) | omega) _ _ | refine Below.setCell ?_ (by first | exact Nat.le_refl _ | (simp; done) | (simp; omega) | omega) _ | assumption))).mono (by simp; omega)) _ 1 rfl (wr.heap.size + 1) ?b2 (x, y) ?b3 hlq ?b4 ?_))
      case b2 => simp [go_sem]
      case b3 => exact ⟨_, rfl, by omega, by first | omega | (simp; done) | (simp; omega), (heap_alloc_old _ _ (by simp)).trans (heap_at_new (by simp))⟩
      case b4 => simp; omega
      intro v' w' hp' hg hloc hrow
      have HP' := Lib.hid hp'
      have hlt2 := fun b hb => (HPR.out.lt b hb).1
      have HB' := Lib.hid (Below.grown (Below.trans HBEL.out (show Below w.heap.size wr _ from (by repeat (first | exact Below.refl _ _ | refine Below.drew ?_ | refine Below.alloc ?_ (by first | exact Nat.le_refl _ | (simp; done) | (simp; omega) | omega) _ | refine Below.more ?_ (by first | exact Nat.le_refl _ | (simp; done) | (simp; omega) | omega) _ _ | refine Below.setCell ?_ (by first | exact Nat.le_refl _ | (simp; done) | (simp; omega) | omega) _ | assumption)))) hg (by simp; omega) hlt2)
      clear hp' hg hloc hrow hlt2
      go_wp2
      refine ⟨⟨k + 1, upd A xs.length (some ⟨wr.heap.size + 1, 0, none⟩), by omega, rfl, HB'.out, ?_, Lib.hid fun i j hij hj => ?_⟩, by simp only [intOf]; omega⟩
      · rw [HST.out]
        exact HP'.out
      · by_cases e : j = k
        · subst e
          obtain ⟨u, hu, _, hu2, _⟩ := HPR.out.pair i (by rw [HLE.out]; exact hij)
          rw [HLE.out, upd_self, upd_lt hij, hu]
          intro h
          simp only [Option.some.injEq, Addr.mk.injEq, and_true] at h
          omega
        · rw [HLE.out, upd_lt (by omega), upd_lt (by omega)]
          exact HDI.out i j hij (by omega)
    · have hk1 : ¬ (k : Int) < (n : Int) := by omega
      obtain rfl : k = n := by omega
      rw [HTA.out] at HPR
      go_wp2
      go_ret
      first
        | exact ⟨_, A, rfl, HPR.out, HDI.out, HBEL.out⟩
        | exact ⟨_, A, rfl, HPR.out, by rw [HN.out]; exact HDI.out, HBEL.out⟩
set_option maxRecDepth 100000 in
set_option maxHeartbeats 1000000 in
theorem impl_edgesD_c (v : Value) (p : MeshD) (w : World) (hr : MeshR w v p) (hs : MeshSz 1048576 p) :
    Calls Try.prog 9 #[v] w (GivesPairs w (edgesD p)) := by
  have HM := Lib.hid hr
  have HS := Lib.hid hs
  obtain ⟨a, c, a', c', rfl, _, _⟩ := hr
  clear hs
  cases hok : meshOkB p
  · have HE := Lib.hid (show edgesD p = [] by simp [edgesD, hok])
    have HOK := Lib.hid hok
    clear hok
    go_enter Try.func9, Try.ntmps9
    go_wp2_with (go_at_call 10; refine (impl_IsValidMesh_c _ p _ (HM.out.below (by repeat (first | exact Below.refl _ _ | refine Below.drew ?_ | refine Below.alloc ?_ (by first | exact Nat.le_refl _ | (simp; done) | (simp; omega) | omega) _ | refine Below.more ?_ (by first | exact Nat.le_refl _ | (simp; done) | (simp; omega) | omega) _ _ | refine Below.setCell ?_ (by first | exact Nat.le_refl _ | (simp; done) | (simp; omega) | omega) _ | assumption))) HS.out).mono ?_; rw [HOK.out]; rintro e wn ⟨rfl, hbn⟩; obtain ⟨X, nX, rfl⟩ := Below.ext hbn; clear hbn)
    go_ret
    rw [HE.out]
    exact ⟨_, _, rfl, PairsIn.nilv, fun i j _ h => absurd h (Nat.not_lt_zero _), (by repeat (first | exact Below.refl _ _ | refine Below.drew ?_ | refine Below.alloc ?_ (by first | exact Nat.le_refl _ | (simp; done) | (simp; omega) | omega) _ | refine Below.more ?_ (by first | exact Nat.le_refl _ | (simp; done) | (simp; omega) | omega) _ _ | refine Below.setCell ?_ (by first | exact Nat.le_refl _ | (simp; done) | (simp; omega) | omega) _ | assumption))⟩
  · have HE := Lib.hid (show edgesD p = edgesL p.faces p.nF by simp [edgesD, hok])
    have HOK := Lib.hid hok
    have HOKP := Lib.hid (meshOkB_true.1 hok)
    have HLN := Lib.hid (show (edgesL p.faces p.nF).length ≤ 1000 from by rw [← HE.out]; exact Nat.le_trans (edgesD_le p) (by omega))
    clear hok
    rw [HE.out]
    go_enter Try.func9, Try.ntmps9
    go_wp2_with (first | (go_at_call 10; refine (impl_IsValidMesh_c _ p _ (HM.out.below (by repeat (first | exact Below.refl _ _ | refine Below.drew ?_ | refine Below.alloc ?_ (by first | exact Nat.le_refl _ | (simp; done) | (simp; omega) | omega) _ | refine Below.more ?_ (by first | exact Nat.le_refl _ | (simp; done) | (simp; omega) | omega) _ _ | refine Below.setCell ?_ (by first | exact Nat.le_refl _ | (simp; done) | (simp; omega) | omega) _ | assumption))) HS.out).mono ?_; rw [HOK.out]; rintro e wn ⟨rfl, hbn⟩; obtain ⟨X, nX, rfl⟩ := Below.ext hbn; clear hbn) | (go_at_call 21; refine (impl_all_c _ p _ (HM.out.below (by repeat (first | exact Below.refl _ _ | refine Below.drew ?_ | refine Below.alloc ?_ (by first | exact Nat.le_refl _ | (simp; done) | (simp; omega) | omega) _ | refine Below.more ?_ (by first | exact Nat.le_refl _ | (simp; done) | (simp; omega) | omega) _ _ | refine Below.setCell ?_ (by first | exact Nat.le_refl _ | (simp; done) | (simp; omega) | omega) _ | assumption))) HS.out HOKP.out).mono ?_; rintro e wn ⟨u, rfl, ho, hbn⟩; have HO := Lib.hid ho; have HBN := Lib.hid hbn; clear ho hbn) | (go_at_call 28; refine (pairs_c u _ _ _ HO.out HLN.out).mono ?_; rintro e w2 ⟨u2, A2, rfl, hp2, hd2, hb2⟩; have HP2 := Lib.hid hp2; have HD2 := Lib.hid hd2; have HB2 := Lib.hid hb2; clear hp2 hd2 hb2))
    go_ret
    have hs1 := HBN.out.size
    simp at hs1
    exact ⟨u2, A2, rfl, HP2.out.lower (by omega), HD2.out, Below.trans (Below.trans (show Below w.heap.size w _ from (by repeat (first | exact Below.refl _ _ | refine Below.drew ?_ | refine Below.alloc ?_ (by first | exact Nat.le_refl _ | (simp; done) | (simp; omega) | omega) _ | refine Below.more ?_ (by first | exact Nat.le_refl _ | (simp; done) | (simp; omega) | omega) _ _ | refine Below.setCell ?_ (by first | exact Nat.le_refl _ | (simp; done) | (simp; omega) | omega) _ | assumption))) (HBN.out.mono (by simp; try omega))) (HB2.out.mono (by omega))⟩
set_option maxRecDepth 100000 in
set_option maxHeartbeats 1000000 in
theorem impl_bndD_c (v : Value) (p : MeshD) (w : World) (hr : MeshR w v p) (hs : MeshSz 1048576 p) :
    Calls Try.prog 13 #[v] w (GivesPairs w (bndD p)) := by
  have HM := Lib.hid hr
  have HS := Lib.hid hs
  obtain ⟨a, c, a', c', rfl, _, _⟩ := hr
  clear hs
  cases hok : meshOkB p
  · have HE := Lib.hid (show bndD p = [] by simp [bndD, hok])
    have HOK := Lib.hid hok
    clear hok
    go_enter Try.func13, Try.ntmps13
    go_wp2_with (go_at_call 10; refine (impl_IsValidMesh_c _ p _ (HM.out.below (by repeat (first | exact Below.refl _ _ | refine Below.drew ?_ | refine Below.alloc ?_ (by first | exact Nat.le_refl _ | (simp; done) | (simp; omega) | omega) _ | refine Below.more ?_ (by first | exact Nat.le_refl _ | (simp; done) | (simp; omega) | omega) _ _ | refine Below.setCell ?_ (by first | exact Nat.le_refl _ | (simp; done) | (simp; omega) | omega) _ | assumption))) HS.out).mono ?_; rw [HOK.out]; rintro e wn ⟨rfl, hbn⟩; obtain ⟨X, nX, rfl⟩ := Below.ext hbn; clear hbn)
    go_ret
    rw [HE.out]
    exact ⟨_, _, rfl, PairsIn.nilv, fun i j _ h => absurd h (Nat.not_lt_zero _), (by repeat (first | exact Below.refl _ _ | refine Below.drew ?_ | refine Below.alloc ?_ (by first | exact Nat.le_refl _ | (simp; done) | (simp; omega) | omega) _ | refine Below.more ?_ (by first | exact Nat.le_refl _ | (simp; done) | (simp; omega) | omega) _ _ | refine Below.setCell ?_ (by first | exact Nat.le_refl _ | (simp; done) | (simp; omega) | omega) _ | assumption))⟩
  · have HE := Lib.hid (show bndD p = bndL p.faces p.nF by simp [bndD, hok])
    have HOK := Lib.hid hok
    have HOKP := Lib.hid (meshOkB_true.1 hok)
    have HLN := Lib.hid (show (bndL p.faces p.nF).length ≤ 1000 from by rw [← HE.out]; exact Nat.le_trans (bndD_le p) (by omega))
    clear hok
    rw [HE.out]
    go_enter Try.func13, Try.ntmps13
    go_wp2_with (first | (go_at_call 10; refine (impl_IsValidMesh_c _ p _ (HM.out.below (by repeat (first | exact Below.refl _ _ | refine Below.drew ?_ | refine Below.alloc ?_ (by first | exact Nat.le_refl _ | (simp; done) | (simp; omega) | omega) _ | refine Below.more ?_ (by first | exact Nat.le_refl _ | (simp; done) | (simp; omega) | omega) _ _ | refine Below.setCell ?_ (by first | exact Nat.le_refl _ | (simp; done) | (simp; omega) | omega) _ | assumption))) HS.out).mono ?_; rw [HOK.out]; rintro e wn ⟨rfl, hbn⟩; obtain ⟨X, nX, rfl⟩ := Below.ext hbn; clear hbn) | (go_at_call 32; refine (impl_bnd_c _ p _ (HM.out.below (by repeat (first | exact Below.refl _ _ | refine Below.drew ?_ | refine Below.alloc ?_ (by first | exact Nat.le_refl _ | (simp; done) | (simp; omega) | omega) _ | refine Below.more ?_ (by first | exact Nat.le_refl _ | (simp; done) | (simp; omega) | omega) _ _ | refine Below.setCell ?_ (by first | exact Nat.le_refl _ | (simp; done) | (simp; omega) | omega) _ | assumption))) HS.out HOKP.out).mono ?_; rintro e wn ⟨u, rfl, ho, hbn⟩; have HO := Lib.hid ho; have HBN := Lib.hid hbn; clear ho hbn) | (go_at_call 28; refine (pairs_c u _ _ _ HO.out HLN.out).mono ?_; rintro e w2 ⟨u2, A2, rfl, hp2, hd2, hb2⟩; have HP2 := Lib.hid hp2; have HD2 := Lib.hid hd2; have HB2 := Lib.hid hb2; clear hp2 hd2 hb2))
    go_ret
    have hs1 := HBN.out.size
    simp at hs1
    exact ⟨u2, A2, rfl, HP2.out.lower (by omega), HD2.out, Below.trans (Below.trans (show Below w.heap.size w _ from (by repeat (first | exact Below.refl _ _ | refine Below.drew ?_ | refine Below.alloc ?_ (by first | exact Nat.le_refl _ | (simp; done) | (simp; omega) | omega) _ | refine Below.more ?_ (by first | exact Nat.le_refl _ | (simp; done) | (simp; omega) | omega) _ _ | refine Below.setCell ?_ (by first | exact Nat.le_refl _ | (simp; done) | (simp; omega) | omega) _ | assumption))) (HBN.out.mono (by simp; try omega))) (HB2.out.mono (by omega))⟩
set_option maxRecDepth 100000 in
set_option maxHeartbeats 1000000 in
theorem impl_IsClosed_c (v : Value) (p : MeshD) (w : World) (hr : MeshR w v p) (hs : MeshSz 1048576 p) :
    Calls Try.prog 12 #[v] w fun e w' => e = .returned (.bool (closedD p)) ∧ Below w.heap.size w w' := by
  have HM := Lib.hid hr
  have HS := Lib.hid hs
  obtain ⟨a, c, a', c', rfl, _, _⟩ := hr
  clear hs
  cases hok : meshOkB p
  · have HE := Lib.hid (show closedD p = false by simp [closedD, hok])
    have HOK := Lib.hid hok
    clear hok
    rw [HE.out]
    go_enter Try.func12, Try.ntmps12
    go_wp2_with (go_at_call 10; refine (impl_IsValidMesh_c _ p _ (HM.out.below (by repeat (first | exact Below.refl _ _ | refine Below.drew ?_ | refine Below.alloc ?_ (by first | exact Nat.le_refl _ | (simp; done) | (simp; omega) | omega) _ | refine Below.more ?_ (by first | exact Nat.le_refl _ | (simp; done) | (simp; omega) | omega) _ _ | refine Below.setCell ?_ (by first | exact Nat.le_refl _ | (simp; done) | (simp; omega) | omega) _ | assumption))) HS.out).mono ?_; rw [HOK.out]; rintro e wn ⟨rfl, hbn⟩; obtain ⟨X, nX, rfl⟩ := Below.ext hbn; clear hbn)
    go_ret
    exact ⟨rfl, (by repeat (first | exact Below.refl _ _ | refine Below.drew ?_ | refine Below.alloc ?_ (by first | exact Nat.le_refl _ | (simp; done) | (simp; omega) | omega) _ | refine Below.more ?_ (by first | exact Nat.le_refl _ | (simp; done) | (simp; omega) | omega) _ _ | refine Below.setCell ?_ (by first | exact Nat.le_refl _ | (simp; done) | (simp; omega) | omega) _ | assumption))⟩
  · have HOK := Lib.hid hok
    by_cases h0 : 0 < p.nF
    · have HE := Lib.hid (show closedD p = decide ((bndL p.faces p.nF).length = 0) by simp [closedD, bndD, hok, h0])
      have h1 : (0 : Int) < (p.nF : Int) := by omega
      have HOKP := Lib.hid (meshOkB_true.1 hok)
      clear hok h0
      go_enter Try.func12, Try.ntmps12
      go_wp2_with (first | (go_at_call 10; refine (impl_IsValidMesh_c _ p _ (HM.out.below (by repeat (first | exact Below.refl _ _ | refine Below.drew ?_ | refine Below.alloc ?_ (by first | exact Nat.le_refl _ | (simp; done) | (simp; omega) | omega) _ | refine Below.more ?_ (by first | exact Nat.le_refl _ | (simp; done) | (simp; omega) | omega) _ _ | refine Below.setCell ?_ (by first | exact Nat.le_refl _ | (simp; done) | (simp; omega) | omega) _ | assumption))) HS.out).mono ?_; rw [HOK.out]; rintro e wn ⟨rfl, hbn⟩; obtain ⟨X, nX, rfl⟩ := Below.ext hbn; clear hbn) | (go_at_call 32; refine (impl_bnd_c _ p _ (HM.out.below (by repeat (first | exact Below.refl _ _ | refine Below.drew ?_ | refine Below.alloc ?_ (by first | exact Nat.le_refl _ | (simp; done) | (simp; omega) | omega) _ | refine Below.more ?_ (by first | exact Nat.le_refl _ | (simp; done) | (simp; omega) | omega) _ _ | refine Below.setCell ?_ (by first | exact Nat.le_refl _ | (simp; done) | (simp; omega) | omega) _ | assumption))) HS.out HOKP.out).mono ?_; rintro e wn ⟨u, rfl, ho, hbn⟩; have HBN := Lib.hid hbn; obtain ⟨ua, uc, rfl⟩ := own_slice ho; clear ho hbn))
      all_goals (go_ret; refine ⟨ret_bool ?_, Below.trans (show Below w.heap.size w _ from (by repeat (first | exact Below.refl _ _ | refine Below.drew ?_ | refine Below.alloc ?_ (by first | exact Nat.le_refl _ | (simp; done) | (simp; omega) | omega) _ | refine Below.more ?_ (by first | exact Nat.le_refl _ | (simp; done) | (simp; omega) | omega) _ _ | refine Below.setCell ?_ (by first | exact Nat.le_refl _ | (simp; done) | (simp; omega) | omega) _ | assumption))) (HBN.out.mono (by simp; try omega))⟩; rw [HE.out]; first | (simp; done) | (simp; omega) | (rw [Bool.eq_iff_iff]; first | (simp; done) | (simp; omega)))
    · have HE := Lib.hid (show closedD p = false by simp [closedD, h0])
      have h1 : ¬ (0 : Int) < (p.nF : Int) := by omega
      clear hok h0
      rw [HE.out]
      go_enter Try.func12, Try.ntmps12
      go_wp2_with (go_at_call 10; refine (impl_IsValidMesh_c _ p _ (HM.out.below (by repeat (first | exact Below.refl _ _ | refine Below.drew ?_ | refine Below.alloc ?_ (by first | exact Nat.le_refl _ | (simp; done) | (simp; omega) | omega) _ | refine Below.more ?_ (by first | exact Nat.le_refl _ | (simp; done) | (simp; omega) | omega) _ _ | refine Below.setCell ?_ (by first | exact Nat.le_refl _ | (simp; done) | (simp; omega) | omega) _ | assumption))) HS.out).mono ?_; rw [HOK.out]; rintro e wn ⟨rfl, hbn⟩; obtain ⟨X, nX, rfl⟩ := Below.ext hbn; clear hbn)
      all_goals (go_ret; first | exact ⟨rfl, (by repeat (first | exact Below.refl _ _ | refine Below.drew ?_ | refine Below.alloc ?_ (by first | exact Nat.le_refl _ | (simp; done) | (simp; omega) | omega) _ | refine Below.more ?_ (by first | exact Nat.le_refl _ | (simp; done) | (simp; omega) | omega) _ _ | refine Below.setCell ?_ (by first | exact Nat.le_refl _ | (simp; done) | (simp; omega) | omega) _ | assumption))⟩ | (refine ⟨ret_bool ?_, (by repeat (first | exact Below.refl _ _ | refine Below.drew ?_ | refine Below.alloc ?_ (by first | exact Nat.le_refl _ | (simp; done) | (simp; omega) | omega) _ | refine Below.more ?_ (by first | exact Nat.le_refl _ | (simp; done) | (simp; omega) | omega) _ _ | refine Below.setCell ?_ (by first | exact Nat.le_refl _ | (simp; done) | (simp; omega) | omega) _ | assumption))⟩; simp; omega))
end Go.Proofs.Ytpfmcobkfofbjaa
namespace Go.Proofs.Ytpfmcobkfofbjaa
open Go Go.RowKit
def joinA (A B : Nat → Option Addr) (n : Nat) : Nat → Option Addr := fun i => if i < n then A i else B (i - n)
theorem slices2_join (A B : Nat → Option Addr) (n m : Nat) : slices2 A n ++ slices2 B m = slices2 (joinA A B n) (n + m) := by
  unfold slices2
  rw [List.range_add, List.map_append, List.map_map]
  congr 1
  · exact List.map_congr_left fun i hi => by simp [joinA, List.mem_range.1 hi]
  · exact List.map_congr_left fun i hi => by simp [joinA]; intro h; omega
/-- A row gets more pairs, out of another row. -/
theorem wpList_append_pairsIn (w : World) {ops : Array Oper} {rest : List Oper} {o : Oper} {a : Act} {Q : Exit → Act → World → Prop} (hgd : o.guard = none) (s x : Operand)
    (ho : o.op = .call { callee := .builtin .append, args := #[s, x], argTypes := #[24, 24] }) (lo : Nat) (v : Value) (L : List (Int × Int)) (A : Nat → Option Addr) (hs : a.eval s = v) (h : PairsIn w lo w.heap.size v L A)
    (ad : Addr) (c m : Nat) (M : List (Int × Int)) (B : Nat → Option Addr) (hm : M.length = m) (hx : a.eval x = .slice (some ad) m c) (hn : ∀ j, j < m → w.cell? (ad.add j) = some (.slice (B j) 2 2)) (hp : ∀ j, j < m → PairIn w lo w.heap.size (B j) (M.getD j (0, 0)))
    (hl : L.length ≤ 1048576) (hm2 : m ≤ 1048576) (hbase : lo ≤ w.heap.size)
    (hK : ∀ v' w' A', PairsIn w' lo w'.heap.size v' (L ++ M) A' → w.grownBy w' v.ownBlock → (v'.ownBlock = v.ownBlock ∨ v'.ownBlock = some w.heap.size) → wpList Try.prog ops Q rest (a.put o.dst v') w') :
    wpList Try.prog ops Q (o :: rest) a w := by
  obtain ⟨i0, hi, hz0, hz1, hz2⟩ := info_parts info_IntS
  have hrow := own_row h.own
  refine wpList_append_own_at w hgd s x 24 ho lo 57 i0 _ 1 24 Try.underlying24 hi hz0 hz1 hz2 rfl (by decide) v L.length _ hs h.own ad m c (slices2 B m) hx (by simp [slices2]) ?_ ?_ (by simp only [maxLen]; omega) (by omega) hbase ?_
  · intro j u hu
    have hj : j < m := by
      have := (List.getElem?_eq_some_iff.1 hu).1
      simpa [slices2] using this
    have : (slices2 B m)[j]? = some (.slice (B j) 2 2) := by simp [slices2, hj]
    rw [this] at hu
    rw [← Option.some.inj hu]
    exact hn j hj
  · intro u hu
    obtain ⟨i, _, rfl⟩ := List.mem_map.1 hu
    rfl
  intro v' w' ho' hg hnil hloc
  refine hK v' w' (joinA A B L.length) ⟨?_, fun b hb => ?_, fun i hi' => ?_⟩ hg hloc
  · rw [List.length_append, hm, ← slices2_join]
    exact ho'
  · obtain ⟨_, c, fz, h2⟩ := own_row ho' b hb
    exact (Array.getElem?_eq_some_iff.1 h2).1
  · rw [List.length_append, hm] at hi'
    by_cases e : i < L.length
    · rw [show joinA A B L.length i = A i by simp [joinA, e], show (L ++ M).getD i (0, 0) = L.getD i (0, 0) by simp [List.getD_eq_getElem?_getD, List.getElem?_append_left e]]
      exact ((h.pair i e).grown hg (fun b hb => Or.inl (hrow b hb).2)).mono hg.size
    · rw [show joinA A B L.length i = B (i - L.length) by simp [joinA, e], show (L ++ M).getD i (0, 0) = M.getD (i - L.length) (0, 0) by simp [List.getD_eq_getElem?_getD, List.getElem?_append_right (Nat.le_of_not_lt e)]]
      exact ((hp (i - L.length) (by omega)).grown hg (fun b hb => Or.inl (hrow b hb).2)).mono hg.size
end Go.Proofs.Ytpfmcobkfofbjaa
namespace Go.Proofs.Ytpfmcobkfofbjaa
open Go Go.RowKit Go.Maps
end Go.Proofs.Ytpfmcobkfofbjaa
