/- To which assignment a node of a valid program belongs: the plain words. -/
import Derived.Test.YtgennnoplmhckaaValidPgm
namespace Go.Proofs.Ytgennnoplmhckaa
open Go Go.RowKit
def argsOf (l : List NodeD) (i : Nat) : List Int := (l.getD i default).f3
def rootOf (s : List AssignmentD) (k : Nat) : Int := (s.getD k default).f1
/-- q stands below r. -/
inductive Sub (l : List NodeD) (r : Nat) : Nat → Prop
  | refl : Sub l r r
  | snoc {i a : Nat} : Sub l r i → (a : Int) ∈ argsOf l i → Sub l r a
theorem Sub.cons {l : List NodeD} {x a q : Nat} (h : (a : Int) ∈ argsOf l x) (k : Sub l a q) : Sub l x q := by
  induction k with
  | refl => exact .snoc .refl h
  | snoc _ h2 ih => exact .snoc ih h2
theorem Sub.inv {l : List NodeD} {x q : Nat} (k : Sub l x q) : q = x ∨ ∃ a : Nat, (a : Int) ∈ argsOf l x ∧ Sub l a q := by
  induction k with
  | refl => exact .inl rfl
  | @snoc i a _ h2 ih =>
    rcases ih with rfl | ⟨b, hb, hs⟩
    · exact .inr ⟨a, h2, .refl⟩
    · exact .inr ⟨b, hb, .snoc hs h2⟩
/-- What is known of a valid program. -/
structure Tree (l : List NodeD) (s : List AssignmentD) (n m : Nat) : Prop where
  low : ∀ i, i < n → ∀ a : Int, a ∈ argsOf l i → 0 ≤ a ∧ a < i
  root : ∀ k, k < m → 0 ≤ rootOf s k ∧ rootOf s k < n
  one : ∀ i j, i < n → j < n → ∀ a : Int, a ∈ argsOf l i → a ∈ argsOf l j → i = j
  apart : ∀ i k, i < n → k < m → rootOf s k ∉ argsOf l i
  inj : ∀ j k, j < m → k < m → rootOf s j = rootOf s k → j = k
  every : ∀ q : Nat, q < n → (∃ i, i < n ∧ (q : Int) ∈ argsOf l i) ∨ ∃ k, k < m ∧ rootOf s k = q
theorem mem_flatL {l : List NodeD} {a : Int} : ∀ {k : Nat}, k ≤ l.length → (a ∈ flatL (l.take k) ↔ ∃ i, i < k ∧ a ∈ argsOf l i)
  | 0, _ => by simp [flatL]
  | k + 1, h => by
    rw [flatL_take (by omega), List.mem_append, mem_flatL (k := k) (by omega)]
    constructor
    · rintro (⟨i, hi, ha⟩ | ha)
      · exact ⟨i, by omega, ha⟩
      · exact ⟨k, by omega, ha⟩
    · rintro ⟨i, hi, ha⟩
      rcases Nat.lt_or_ge i k with h1 | h1
      · exact .inl ⟨i, h1, ha⟩
      · obtain rfl : i = k := by omega
        exact .inr ha
theorem mem_rootsL {s : List AssignmentD} {a : Int} : ∀ {k : Nat}, k ≤ s.length → (a ∈ rootsL (s.take k) ↔ ∃ i, i < k ∧ rootOf s i = a)
  | 0, _ => by simp [rootsL]
  | k + 1, h => by
    rw [rootsL_take (by omega), List.mem_append, mem_rootsL (k := k) (by omega)]
    constructor
    · rintro (⟨i, hi, ha⟩ | ha)
      · exact ⟨i, by omega, ha⟩
      · exact ⟨k, by omega, (List.mem_singleton.1 ha).symm⟩
    · rintro ⟨i, hi, ha⟩
      rcases Nat.lt_or_ge i k with h1 | h1
      · exact .inl ⟨i, h1, ha⟩
      · obtain rfl : i = k := by omega
        exact .inr (List.mem_singleton.2 ha.symm)
theorem tree_of {p : ProgD} (h : validB p = true) : Tree p.nodes p.asg p.nN p.nA := by
  simp only [validB, decide_eq_true_eq] at h
  obtain ⟨h1, h2, h3, _⟩ := h
  have hl := p.hN
  have hs := p.hA
  have low : ∀ i, i < p.nN → ∀ a : Int, a ∈ argsOf p.nodes i → 0 ≤ a ∧ a < i := fun i hi a ha => by
    have := h1 i hi
    simp only [nodeOkB, Bool.and_eq_true, argsInB, decide_eq_true_eq] at this
    obtain ⟨j, hj, rfl⟩ := List.getElem_of_mem ha
    have h4 := this.1 j hj
    have e : (p.nodes.getD i default).f3.getD j 0 = (argsOf p.nodes i)[j] := by
      show (argsOf p.nodes i).getD j 0 = _
      rw [List.getD_eq_getElem?_getD, List.getElem?_eq_getElem hj]; rfl
    rw [e] at h4
    omega
  have root : ∀ k, k < p.nA → 0 ≤ rootOf p.asg k ∧ rootOf p.asg k < p.nN := fun k hk => by
    have := h2 k hk
    simp only [asgOkB, Bool.and_eq_true, inB_true] at this
    unfold rootOf
    omega
  have hmem : ∀ a : Int, a ∈ useL p ↔ (∃ i, i < p.nN ∧ a ∈ argsOf p.nodes i) ∨ ∃ k, k < p.nA ∧ rootOf p.asg k = a := fun a => by
    have e1 := mem_flatL (l := p.nodes) (a := a) (k := p.nN) (by omega)
    have e2 := mem_rootsL (s := p.asg) (a := a) (k := p.nA) (by omega)
    rw [List.take_of_length_le (by omega)] at e1 e2
    rw [useL, List.mem_append, e1, e2]
  have hnd : (useL p).Nodup := by
    rw [List.nodup_iff_count]
    intro a
    by_cases ha : a ∈ useL p
    · have hb : ∃ q : Nat, a = q ∧ q < p.nN := by
        rcases (hmem a).1 ha with ⟨i, hi, hx⟩ | ⟨k, hk, hx⟩
        · have := low i hi a hx
          exact ⟨a.toNat, by omega, by omega⟩
        · have := root k hk
          exact ⟨a.toNat, by omega, by omega⟩
      obtain ⟨q, rfl, hq⟩ := hb
      rw [h3 q hq]
      exact Nat.le_refl _
    · rw [List.count_eq_zero_of_not_mem ha]; omega
  rw [useL, List.nodup_append] at hnd
  obtain ⟨n1, n2, n3⟩ := hnd
  have one' : ∀ i j, i < j → j < p.nN → ∀ a : Int, a ∈ argsOf p.nodes i → a ∈ argsOf p.nodes j → False := fun i j hij hj a ha hb => by
    have h5 : (flatL (p.nodes.take (j + 1))).Nodup := by
      refine List.Nodup.sublist ?_ n1
      have : flatL p.nodes = flatL (p.nodes.take (j + 1)) ++ flatL (p.nodes.drop (j + 1)) := by
        unfold flatL
        rw [← List.flatMap_append, List.take_append_drop]
      rw [this]
      exact List.sublist_append_left _ _
    rw [flatL_take (by omega), List.nodup_append] at h5
    exact h5.2.2 a ((mem_flatL (by omega)).2 ⟨i, hij, ha⟩) a hb rfl
  refine ⟨low, root, fun i j hi hj a ha hb => ?_, fun i k hi hk hx => ?_, fun j k hj hk e => ?_, fun q hq => ?_⟩
  · rcases Nat.lt_trichotomy i j with h | h | h
    · exact (one' i j h hj a ha hb).elim
    · exact h
    · exact (one' j i h hi a hb ha).elim
  · have e1 := mem_flatL (l := p.nodes) (a := rootOf p.asg k) (k := p.nN) (by omega)
    have e2 := mem_rootsL (s := p.asg) (a := rootOf p.asg k) (k := p.nA) (by omega)
    rw [List.take_of_length_le (by omega)] at e1 e2
    exact n3 _ (e1.2 ⟨i, hi, hx⟩) _ (e2.2 ⟨k, hk, rfl⟩) rfl
  · have inj' : ∀ j k, j < k → k < p.nA → rootOf p.asg j ≠ rootOf p.asg k := fun j k hjk hk e => by
      have h5 : (rootsL (p.asg.take (k + 1))).Nodup := by
        refine List.Nodup.sublist ?_ n2
        unfold rootsL
        exact (List.take_sublist _ _).map _
      rw [rootsL_take (by omega), List.nodup_append] at h5
      exact h5.2.2 _ ((mem_rootsL (by omega)).2 ⟨j, hjk, e⟩) _ (List.mem_singleton.2 rfl) rfl
    rcases Nat.lt_trichotomy j k with h | h | h
    · exact (inj' j k h hk e).elim
    · exact h
    · exact (inj' k j h hj e.symm).elim
  · have : (q : Int) ∈ useL p := by
      apply Classical.byContradiction
      intro hc
      have := h3 q hq
      rw [List.count_eq_zero_of_not_mem hc] at this
      cases this
    rcases (hmem q).1 this with h | h
    · exact .inl h
    · exact .inr h
section
variable {l : List NodeD} {s : List AssignmentD} {n m : Nat}
/-- q belongs to assignment k. -/
def Owns (l : List NodeD) (s : List AssignmentD) (k q : Nat) : Prop := Sub l (rootOf s k).toNat q
theorem Sub.le (T : Tree l s n m) {x q : Nat} (hx : x < n) (h : Sub l x q) : q < n := by
  induction h with
  | refl => exact hx
  | snoc _ h2 ih => have := T.low _ ih _ h2; omega
theorem owns_one (T : Tree l s n m) {j k q : Nat} (hj : j < m) (hk : k < m) (h1 : Owns l s j q) (h2 : Owns l s k q) : j = k := by
  have hrj := T.root j hj
  have hrk := T.root k hk
  unfold Owns at h1
  induction h1 with
  | refl =>
    unfold Owns at h2
    generalize hq : (rootOf s j).toNat = q at h2
    cases h2 with
    | refl => exact T.inj j k hj hk (by omega)
    | @snoc i a h3 h4 =>
      have hi := Sub.le T (by omega) h3
      exact absurd (show rootOf s j ∈ argsOf l i by rw [show rootOf s j = (q : Int) by omega]; exact h4) (T.apart i j hi hj)
  | @snoc i a h3 h4 ih =>
    have hi := Sub.le T (by omega) h3
    have h5 : (rootOf s k).toNat = a ∨ ∃ i', Sub l (rootOf s k).toNat i' ∧ (a : Int) ∈ argsOf l i' := by
      unfold Owns at h2
      cases h2 with
      | refl => exact .inl rfl
      | @snoc i' a h6 h7 => exact .inr ⟨i', h6, h7⟩
    rcases h5 with h5 | ⟨i', h6, h7⟩
    · exact absurd (show rootOf s k ∈ argsOf l i by rw [show rootOf s k = (a : Int) by omega]; exact h4) (T.apart i k hi hk)
    · obtain rfl := T.one i i' hi (Sub.le T (by omega) h6) _ h4 h7
      exact ih h6
theorem owns_some (T : Tree l s n m) : ∀ d q : Nat, n - q ≤ d → q < n → ∃ k, k < m ∧ Owns l s k q := by
  intro d
  induction d with
  | zero => intro q h hq; omega
  | succ d ih =>
    intro q h hq
    rcases T.every q hq with ⟨i, hi, ha⟩ | ⟨k, hk, hr⟩
    · have := T.low i hi _ ha
      obtain ⟨k, hk, ho⟩ := ih i (by omega) hi
      exact ⟨k, hk, .snoc ho ha⟩
    · refine ⟨k, hk, ?_⟩
      have : (rootOf s k).toNat = q := by omega
      unfold Owns
      rw [this]
      exact .refl
end
open Classical in
/-- The assignment that contains node q. -/
noncomputable def ownerD (l : List NodeD) (s : List AssignmentD) (m q : Nat) : Int := if h : ∃ k, k < m ∧ Owns l s k q then ((Classical.choose h : Nat) : Int) else 0
theorem ownerD_eq {l : List NodeD} {s : List AssignmentD} {n m : Nat} (T : Tree l s n m) {k q : Nat} (hk : k < m) (h : Owns l s k q) : ownerD l s m q = k := by
  have hx : ∃ k, k < m ∧ Owns l s k q := ⟨k, hk, h⟩
  unfold ownerD
  rw [dif_pos hx]
  have := Classical.choose_spec hx
  rw [owns_one T this.1 hk this.2 h]
/-- All nodes have their owners. -/
def Owned (l : List NodeD) (s : List AssignmentD) (n m : Nat) (L : List Int) : Prop := L.length = n ∧ ∀ q, q < n → L.getD q 0 = ownerD l s m q
theorem owned_of {l : List NodeD} {s : List AssignmentD} {n m : Nat} (T : Tree l s n m) {L : List Int} (hl : L.length = n) (h : ∀ k q, k < m → Owns l s k q → L.getD q 0 = k) : Owned l s n m L := by
  refine ⟨hl, fun q hq => ?_⟩
  obtain ⟨k, hk, ho⟩ := owns_some T _ q (Nat.le_refl _) hq
  rw [h k q hk ho, ownerD_eq T hk ho]
end Go.Proofs.Ytgennnoplmhckaa
