/- Lists of edges in order, each edge once: plain mathematics. -/
import Derived.Test.YtpfmcobkfofbjaaGreatGroups
namespace Go.Proofs.YtpfmcobkfofbjaaGreat
open Go Go.RowKit
def ltE (a b : Int × Int) : Bool := decide (a.1 < b.1 ∨ (a.1 = b.1 ∧ a.2 < b.2))
theorem ltE_iff {a b : Int × Int} : ltE a b = true ↔ (a.1 < b.1 ∨ (a.1 = b.1 ∧ a.2 < b.2)) := by simp [ltE]
theorem ltE_not {a b : Int × Int} : ltE a b = false ↔ (b = a ∨ ltE b a = true) := by
  obtain ⟨a1, a2⟩ := a
  obtain ⟨b1, b2⟩ := b
  rw [ltE_iff, Prod.mk.injEq]
  simp only [ltE, decide_eq_false_iff_not]
  omega
theorem ltE_irr (a : Int × Int) : ltE a a = false := ltE_not.2 (.inl rfl)
theorem ltE_trans {a b c : Int × Int} (h : ltE a b = true) (k : ltE b c = true) : ltE a c = true := by
  rw [ltE_iff] at *; omega
theorem ltE_asymm {a b : Int × Int} (h : ltE a b = true) : ltE b a = false := by
  cases hb : ltE b a
  · rfl
  · have := ltE_trans h hb; rw [ltE_irr] at this; cases this
def SortedE (l : List (Int × Int)) : Prop := l.Pairwise fun a b => ltE a b = true
/-- p put in its place, if it is not there. -/
def putE : List (Int × Int) → Int × Int → List (Int × Int)
  | [], p => [p]
  | q :: l, p => if ltE q p = true then q :: putE l p else if q = p then q :: l else p :: q :: l
theorem mem_putE {l : List (Int × Int)} {p x : Int × Int} : x ∈ putE l p ↔ x = p ∨ x ∈ l := by
  induction l with
  | nil => simp [putE]
  | cons q l ih =>
    unfold putE
    split
    · rw [List.mem_cons, ih, List.mem_cons]
      constructor
      · rintro (h | h | h) <;> simp [h]
      · rintro (h | h | h) <;> simp [h]
    · split
      · rename_i h; subst h; simp
      · simp
theorem sorted_putE {l : List (Int × Int)} {p : Int × Int} (h : SortedE l) : SortedE (putE l p) := by
  induction l with
  | nil => simp [putE, SortedE]
  | cons q l ih =>
    obtain ⟨h1, h2⟩ := List.pairwise_cons.1 h
    unfold putE
    split
    · rename_i hq
      refine List.pairwise_cons.2 ⟨fun x hx => ?_, ih h2⟩
      rcases mem_putE.1 hx with rfl | hx
      · exact hq
      · exact h1 x hx
    · rename_i hq
      split
      · exact h
      · rename_i hne
        have hpq : ltE p q = true := by
          rcases ltE_not.1 (Bool.eq_false_iff.2 hq) with e | e
          · exact absurd e.symm hne
          · exact e
        refine List.pairwise_cons.2 ⟨fun x hx => ?_, h⟩
        rcases List.mem_cons.1 hx with rfl | hx
        · exact hpq
        · exact ltE_trans hpq (h1 x hx)
theorem putE_len (l : List (Int × Int)) (p : Int × Int) : (putE l p).length ≤ l.length + 1 := by
  induction l with
  | nil => simp [putE]
  | cons q l ih => unfold putE; split; · simp; omega
                   · split <;> simp
/-- Two lists in order with the same members are one. -/
theorem sortedE_eq {a b : List (Int × Int)} (ha : SortedE a) (hb : SortedE b) (h : ∀ x, x ∈ a ↔ x ∈ b) : a = b := by
  induction a generalizing b with
  | nil =>
    cases b with
    | nil => rfl
    | cons y b => exact absurd ((h y).2 (by simp)) (by simp)
  | cons x a ih =>
    cases b with
    | nil => exact absurd ((h x).1 (by simp)) (by simp)
    | cons y b =>
      obtain ⟨ha1, ha2⟩ := List.pairwise_cons.1 ha
      obtain ⟨hb1, hb2⟩ := List.pairwise_cons.1 hb
      have e : x = y := by
        have h1 := (h x).1 (by simp)
        have h2 := (h y).2 (by simp)
        rcases List.mem_cons.1 h1 with e | h1
        · exact e
        · rcases List.mem_cons.1 h2 with e | h2
          · exact e.symm
          · have q := ltE_asymm (ha1 y h2)
            rw [hb1 x h1] at q; cases q
      subst e
      congr 1
      refine ih ha2 hb2 fun z => ⟨fun hz => ?_, fun hz => ?_⟩
      · rcases List.mem_cons.1 ((h z).1 (by simp [hz])) with e | hz2
        · subst e; have := ha1 z hz; rw [ltE_irr] at this; cases this
        · exact hz2
      · rcases List.mem_cons.1 ((h z).2 (by simp [hz])) with e | hz2
        · subst e; have := hb1 z hz; rw [ltE_irr] at this; cases this
        · exact hz2
theorem sortedE_nodup {l : List (Int × Int)} (h : SortedE l) : l.Nodup :=
  h.imp fun {a b} hab e => by subst e; rw [ltE_irr] at hab; cases hab
/-- .. sorted by the library. -/
def sortE (l : List (Int × Int)) : List (Int × Int) := l.mergeSort fun x y => !ltE y x
theorem mem_sortE {l : List (Int × Int)} {x : Int × Int} : x ∈ sortE l ↔ x ∈ l := List.mem_mergeSort
theorem len_sortE (l : List (Int × Int)) : (sortE l).length = l.length := List.length_mergeSort _
theorem sorted_sortE {l : List (Int × Int)} (h : l.Nodup) : SortedE (sortE l) := by
  have h1 : (sortE l).Pairwise fun x y => (!ltE y x) = true := List.pairwise_mergeSort (fun a b c hab hbc => by
      simp only [Bool.not_eq_true', ltE, decide_eq_false_iff_not] at *; omega) (fun a b => by
      simp only [Bool.or_eq_true, Bool.not_eq_true', ltE, decide_eq_false_iff_not]; omega) l
  have h2 : (sortE l).Nodup := (List.mergeSort_perm l _).nodup_iff.2 h
  refine (h1.and h2).imp fun {a b} ⟨h3, h4⟩ => ?_
  rcases ltE_not.1 (by simpa using h3 : ltE b a = false) with e | e
  · exact absurd e h4
  · exact e
/-- Two lists in any order with the same members, each once: sorted they are one. -/
theorem sortE_congr {a b : List (Int × Int)} (ha : a.Nodup) (hb : b.Nodup) (h : ∀ x, x ∈ a ↔ x ∈ b) : sortE a = sortE b :=
  sortedE_eq (sorted_sortE ha) (sorted_sortE hb) fun x => by rw [mem_sortE, mem_sortE, h]
theorem sortE_of_sorted {l : List (Int × Int)} (h : SortedE l) : sortE l = l :=
  sortedE_eq (sorted_sortE (sortedE_nodup h)) h fun _ => mem_sortE
/-- What l06Put does: k is the first place that is not ahead of p. -/
theorem putE_at {l : List (Int × Int)} {p : Int × Int} {k : Nat} (hk : k ≤ l.length) (h1 : ∀ i, i < k → ltE (l.getD i (0, 0)) p = true) (h2 : k < l.length → ltE (l.getD k (0, 0)) p = false) :
    putE l p = if k < l.length ∧ l.getD k (0, 0) = p then l else l.take k ++ p :: l.drop k := by
  induction l generalizing k with
  | nil =>
    obtain rfl : k = 0 := by simpa using hk
    simp [putE]
  | cons q l ih =>
    cases k with
    | zero =>
      have h3 := h2 (by simp)
      simp only [List.getD_cons_zero] at h3
      unfold putE
      rw [h3]
      by_cases e : q = p <;> simp [e]
    | succ k =>
      have h3 := h1 0 (by omega)
      simp only [List.getD_cons_zero] at h3
      unfold putE
      rw [if_pos h3, ih (k := k) (by simpa using hk) (fun i hi => by simpa using h1 (i + 1) (by omega)) (fun hl => by simpa using h2 (by simp; omega))]
      simp only [List.length_cons, List.getD_cons_succ, Nat.add_lt_add_iff_right, List.take_succ_cons, List.drop_succ_cons, List.cons_append]
      split <;> rfl
/-- The edges of the first j steps of a face, put into L; of the first k faces. -/
def putSteps (f : List Int) (L : List (Int × Int)) (j : Nat) : List (Int × Int) := (List.range j).foldl (fun l t => putE l (und (stepAt f t))) L
theorem putSteps_succ (f : List Int) (L : List (Int × Int)) (j : Nat) : putSteps f L (j + 1) = putE (putSteps f L j) (und (stepAt f j)) := by simp [putSteps, List.range_succ]
def edgesL (s : List (List Int)) (k : Nat) : List (Int × Int) := (List.range k).foldl (fun l i => putSteps (faceAt s i) l 4) []
theorem edgesL_succ (s : List (List Int)) (k : Nat) : edgesL s (k + 1) = putSteps (faceAt s k) (edgesL s k) 4 := by simp [edgesL, List.range_succ]
theorem mem_addK {ks : List (Int × Int)} {p x : Int × Int} : x ∈ addK ks p ↔ x = p ∨ x ∈ ks := by
  unfold addK
  split
  · constructor
    · exact fun h => .inr h
    · rintro (rfl | h) <;> assumption
  · simp [or_comm]
theorem nodup_addK {ks : List (Int × Int)} {p : Int × Int} (h : ks.Nodup) : (addK ks p).Nodup := by
  unfold addK
  split
  · exact h
  · exact nodup_snoc h (by assumption)
theorem steps_ok (f : List Int) {ks L : List (Int × Int)} (hs : SortedE L) (hn : ks.Nodup) (h : ∀ x, x ∈ ks ↔ x ∈ L) : ∀ j, SortedE (putSteps f L j) ∧ (stepKeys f ks j).Nodup ∧ ∀ x, x ∈ stepKeys f ks j ↔ x ∈ putSteps f L j
  | 0 => ⟨hs, hn, h⟩
  | j + 1 => by
    obtain ⟨h1, h2, h3⟩ := steps_ok f hs hn h j
    rw [putSteps_succ, stepKeys_succ]
    exact ⟨sorted_putE h1, nodup_addK h2, fun x => by rw [mem_addK, mem_putE, h3]⟩
theorem edges_ok (s : List (List Int)) : ∀ k, SortedE (edgesL s k) ∧ (keysTo s k).Nodup ∧ ∀ x, x ∈ keysTo s k ↔ x ∈ edgesL s k
  | 0 => ⟨List.Pairwise.nil, List.nodup_nil, fun _ => Iff.rfl⟩
  | k + 1 => by
    obtain ⟨h1, h2, h3⟩ := edges_ok s k
    rw [edgesL_succ, keysTo_succ]
    exact steps_ok (faceAt s k) h1 h2 h3 4
theorem sortE_keys (s : List (List Int)) (k : Nat) : sortE (keysTo s k) = edgesL s k := by
  obtain ⟨h1, h2, h3⟩ := edges_ok s k
  rw [← sortE_of_sorted h1]
  exact sortE_congr h2 (sortedE_nodup h1) h3
theorem edges_len (s : List (List Int)) (k : Nat) : (edgesL s k).length = (keysTo s k).length := by rw [← sortE_keys, len_sortE]
theorem putSteps_len (f : List Int) (L : List (Int × Int)) : ∀ j, (putSteps f L j).length ≤ L.length + j
  | 0 => Nat.le_refl _
  | j + 1 => by
    rw [putSteps_succ]
    have := putE_len (putSteps f L j) (und (stepAt f j))
    have := putSteps_len f L j
    omega
theorem edgesL_len (s : List (List Int)) : ∀ k, (edgesL s k).length ≤ 4 * k
  | 0 => Nat.le_refl _
  | k + 1 => by
    rw [edgesL_succ]
    have := putSteps_len (faceAt s k) (edgesL s k) 4
    have := edgesL_len s k
    omega
/-- A part of the edges: sorted keys of which q holds. -/
theorem sortE_filter (s : List (List Int)) (k : Nat) (q : Int × Int → Bool) : sortE ((keysTo s k).filter q) = (edgesL s k).filter q := by
  obtain ⟨h1, h2, h3⟩ := edges_ok s k
  have h4 : SortedE ((edgesL s k).filter q) := h1.filter _
  rw [← sortE_of_sorted h4]
  exact sortE_congr (h2.filter _) (sortedE_nodup h4) fun x => by rw [List.mem_filter, List.mem_filter, h3]
/-- Each edge has its smaller end ahead, and both ends are vertices. -/
theorem mem_edgesL {s : List (List Int)} {k : Nat} {x : Int × Int} (h : x ∈ edgesL s k) : ∃ i j, i < k ∧ j < 4 ∧ x = und (stepAt (faceAt s i) j) := by
  induction k with
  | zero => exact absurd h (by simp [edgesL])
  | succ k ih =>
    rw [edgesL_succ] at h
    have key : ∀ j, j ≤ 4 → x ∈ putSteps (faceAt s k) (edgesL s k) j → ∃ i j, i < k + 1 ∧ j < 4 ∧ x = und (stepAt (faceAt s i) j) := by
      intro j
      induction j with
      | zero =>
        intro _ h
        obtain ⟨i, j, h1, h2, h3⟩ := ih h
        exact ⟨i, j, by omega, h2, h3⟩
      | succ j ih2 =>
        intro hj h
        rw [putSteps_succ] at h
        rcases mem_putE.1 h with e | h
        · exact ⟨k, j, by omega, by omega, e⟩
        · exact ih2 (by omega) h
    exact key 4 (Nat.le_refl _) h
theorem und_und (p : Int × Int) : und (und p) = und p := by
  obtain ⟨a, b⟩ := p
  simp only [und, Prod.mk.injEq]; omega
theorem und_of_edge {s : List (List Int)} {k : Nat} {x : Int × Int} (h : x ∈ edgesL s k) : und x = x := by
  obtain ⟨i, j, _, _, rfl⟩ := mem_edgesL h
  exact und_und _
end Go.Proofs.YtpfmcobkfofbjaaGreat
