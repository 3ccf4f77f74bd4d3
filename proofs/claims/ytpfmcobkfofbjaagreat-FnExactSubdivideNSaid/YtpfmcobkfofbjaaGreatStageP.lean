/- A region that draws its order, walked in an order of one's own: the places of the quiet operations first, then the places of the others. -/
import Derived.Test.YtpfmcobkfofbjaaGreatStage
namespace Go.Proofs.YtpfmcobkfofbjaaGreat
open Go Go.RowKit
section
variable {P : Program} {ops : Array Oper} {md : Region.Mode} {C : World → Prop} {S : Type} {Cl : S → World → Prop} {Q : Exit → Act → World → Prop}
def seqP (md : Region.Mode) (ops : Array Oper) : List Nat → Array Bool → Bool
  | [], listed => (Region.ready md ops listed).isEmpty
  | i :: ts, listed => decide (Region.ready md ops listed = [i]) && seqP md ops ts (listed.setIfInBounds i true)
def lexP (md : Region.Mode) (ops : Array Oper) : List Nat → List Nat → Array Bool → Bool
  | [], ts, listed => seqP md ops ts listed
  | i :: hs, ts, listed => (Region.ready md ops listed).contains i && Region.free md ops listed i && lexP md ops hs ts (listed.setIfInBounds i true)
/-- The quiet ones, at these places. -/
def headP (P : Program) (ops : Array Oper) (C : World → Prop) (K : Act → Prop) : List Nat → Act → Prop
  | [], a => K a
  | i :: is, a => ∃ o, ops[i]? = some o ∧ if Region.wanted o (yielded ops a.tmps) then ∃ v, (∀ w, C w → o.quietAt P a (fun w' => Stays w w') w v) ∧ headP P ops C K is (a.put o.dst v) else headP P ops C K is (a.put o.dst undef)
/-- The others, at theirs. -/
def tailP (P : Program) (ops : Array Oper) (Cl : S → World → Prop) (Q : Exit → Act → World → Prop) : List Nat → S → Act → Prop
  | [], s, a => ∀ w, Cl s w → Q .normal a w
  | i :: is, s, a => ∃ o, ops[i]? = some o ∧ NoisyB P ops Cl o s a (tailP P ops Cl Q is)
theorem headP_step {K : Act → Prop} {a : Act} {o : Oper} {i : Nat} {is : List Nat} (ho : ops[i]? = some o)
    (h : ∀ K' : Act → Prop, (∀ a, headP P ops C K is a → K' a) → if Region.wanted o (yielded ops a.tmps) then ∃ v, (∀ w, C w → o.quietAt P a (fun w' => Stays w w') w v) ∧ K' (a.put o.dst v) else K' (a.put o.dst undef)) : headP P ops C K (i :: is) a :=
  ⟨o, ho, h _ (fun _ h => h)⟩
theorem headP_nil {K : Act → Prop} {a : Act} (h : K a) : headP P ops C K [] a := h
theorem anyS_tailP (ts : List Nat) : ∀ (s : S) (listed : Array Bool) (a : Act), seqP md ops ts listed = true → tailP P ops Cl Q ts s a → anyS P md ops C Cl Q ts.length s listed a := by
  induction ts with
  | nil => intro s listed a hB h; exact ⟨by simpa [seqP] using hB, h⟩
  | cons i ts ih =>
    intro s listed a hB h
    obtain ⟨o, h0, h⟩ := h
    simp only [seqP, Bool.and_eq_true, decide_eq_true_eq] at hB
    refine ⟨fun h1 => (by rw [hB.1] at h1; cases h1), fun j hj => ?_⟩
    rw [hB.1] at hj
    obtain rfl : j = i := by simpa using hj
    refine ⟨o, h0, .inr ⟨h.1, fun w hw => ?_⟩⟩
    obtain ⟨u, w', s', hr, hw', hk⟩ := h.2 w hw
    exact ⟨u, w', s', hr, hw', ih s' _ _ hB.2 hk⟩
theorem anyS_headP {s : S} (hsel : Region.noSelect ops = true) (ts : List Nat) (hs : List Nat) : ∀ (listed : Array Bool) (a : Act), lexP md ops hs ts listed = true → headP P ops C (tailP P ops Cl Q ts s) hs a → anyS P md ops C Cl Q (hs.length + ts.length) s listed a := by
  induction hs with
  | nil =>
    intro listed a hB h
    rw [List.length_nil, Nat.zero_add]
    exact anyS_tailP ts s listed a (by simpa [lexP] using hB) h
  | cons i hs ih =>
    intro listed a hB h
    obtain ⟨o, h0, h⟩ := h
    simp only [lexP, Bool.and_eq_true] at hB
    have hr' : i ∈ Region.ready md ops listed := by simpa using hB.1.1
    have e : (i :: hs).length + ts.length = (hs.length + ts.length) + 1 := by simp; omega
    rw [e]
    by_cases hwt : Region.wanted o (yielded ops a.tmps) = true
    · rw [if_pos hwt] at h
      obtain ⟨v, hv, hrest⟩ := h
      exact anyS_first h0 (Region.noSelect_spec hsel) _ s listed a (Region.free_spec h0 hB.1.2) hr' (.inl ⟨hwt, hv⟩) (ih _ _ hB.2 hrest)
    · rw [if_neg hwt] at h
      exact anyS_first h0 (Region.noSelect_spec hsel) _ s listed a (Region.free_spec h0 hB.1.2) hr' (.inr ⟨by simpa using hwt, rfl⟩) (ih _ _ hB.2 h)
def stageP (ops : Array Oper) (hs ts : List Nat) : Bool := Region.noSelect ops && decide (hs.length + ts.length = ops.size) && lexP .any ops hs ts (Array.replicate ops.size false)
theorem region_stageP {id : Nat} {a : Act} {w : World} {l : Array Oper} (hs ts : List Nat) (s : S) (hm : P.follows .mixedOrders = true) (hB : stageP l hs ts = true) (hC : ∀ s w, Cl s w → C w) (hst : ∀ s w w', Cl s w → Below w.heap.size w w' → Cl s w') (h0 : Cl s w.drew)
    (h : headP P l C (tailP P l Cl Q ts s) hs a) : (Code.region id l true).wp P Q a w := by
  simp only [stageP, Bool.and_eq_true, decide_eq_true_eq] at hB
  obtain ⟨⟨hsel, hn⟩, hlex⟩ := hB
  refine wp_region_any hm ?_
  have H := anyS_headP (P := P) (C := C) (Cl := Cl) (Q := Q) (md := .any) (ops := l) (s := s) hsel ts hs (Array.replicate l.size false) a hlex h
  rw [hn] at H
  exact wpAny_of_anyS hC hst _ s _ a w.drew h0 H
end
end Go.Proofs.YtpfmcobkfofbjaaGreat
