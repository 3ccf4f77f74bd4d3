/- A region that draws its order, whose operations are quiet (they read old memory, they call what leaves old memory alone) but for a few that lay and fill new memory in one order among themselves: one walk, the quiet ones first. -/
import Derived.Test.YtpfmcobkfofbjaaBase
namespace Go.Proofs.Ytpfmcobkfofbjaa
open Go Go.RowKit
/-- What was there stays as it was. -/
def Stays (w w' : World) : Prop := Below w.heap.size w w'
section
variable {P : Program} {ops : Array Oper} {md : Region.Mode} {C : World → Prop} {S : Type} {Cl : S → World → Prop} {Q : Exit → Act → World → Prop}
/-- In every world of the base class the operation yields v, and what was there stays. -/
def YieldsB (P : Program) (ops : Array Oper) (C : World → Prop) (o : Oper) (v : Value) (a : Act) : Prop :=
  (Region.wanted o (yielded ops a.tmps) = true ∧ ∀ w, C w → o.quietAt P a (fun w' => Stays w w') w v) ∨ (Region.wanted o (yielded ops a.tmps) = false ∧ v = undef)
theorem YieldsB.same {o : Oper} {v : Value} {a a' : Act} (hy : YieldsB P ops C o v a) (he : execOp a'.eval o = execOp a.eval o) (hw : Region.wanted o (yielded ops a'.tmps) = Region.wanted o (yielded ops a.tmps)) : YieldsB P ops C o v a' := by
  unfold YieldsB Oper.quietAt at *
  rw [he, hw]
  exact hy
/-- One that lays or fills new memory: from one stage to a next. -/
def NoisyB (P : Program) (ops : Array Oper) (Cl : S → World → Prop) (o : Oper) (s : S) (a : Act) (K : S → Act → Prop) : Prop :=
  Region.wanted o (yielded ops a.tmps) = true ∧ ∀ w, Cl s w → ∃ u w' s', ((execOp a.eval o).run P w = .ok (.value u) w' ∨ ((execOp a.eval o).run P w = .ok .skip w' ∧ u = undef)) ∧ Cl s' w' ∧ K s' (a.put o.dst u)
def anyS (P : Program) (md : Region.Mode) (ops : Array Oper) (C : World → Prop) (Cl : S → World → Prop) (Q : Exit → Act → World → Prop) : Nat → S → Array Bool → Act → Prop
  | 0, s, listed, a => Region.ready md ops listed = [] ∧ ∀ w, Cl s w → Q .normal a w
  | f + 1, s, listed, a => (Region.ready md ops listed = [] → ∀ w, Cl s w → Q .normal a w) ∧
    ∀ i ∈ Region.ready md ops listed, ∃ o, ops[i]? = some o ∧
      ((∃ v, YieldsB P ops C o v a ∧ anyS P md ops C Cl Q f s (listed.setIfInBounds i true) (a.put o.dst v)) ∨
        NoisyB P ops Cl o s a (fun s' a' => anyS P md ops C Cl Q f s' (listed.setIfInBounds i true) a'))
theorem wpAny_of_anyS (hC : ∀ s w, Cl s w → C w) (hst : ∀ s w w', Cl s w → Below w.heap.size w w' → Cl s w') (f : Nat) :
    ∀ (s : S) (listed : Array Bool) (a : Act) (w : World), Cl s w → anyS P md ops C Cl Q f s listed a → wpAny P md ops Q f listed a w := by
  induction f with
  | zero => intro s listed a w hw h; exact ⟨h.1, h.2 w hw⟩
  | succ f ih =>
    intro s listed a w hw h
    refine ⟨fun h0 => h.1 h0 w hw, fun i hi => ?_⟩
    obtain ⟨o, ho, h2⟩ := h.2 i hi
    unfold wpOp
    simp only [ho]
    rcases h2 with ⟨v, hy, hk⟩ | ⟨hwt, hn⟩
    · rcases hy with ⟨hwt, hq⟩ | ⟨hwt, rfl⟩
      · rw [if_pos hwt]
        refine .inl ?_
        have h3 := hq w (hC s w hw)
        unfold Oper.quietAt at h3
        unfold Oper.wp
        generalize (execOp a.eval o).run P w = r at *
        cases r with
        | halt x w' => simp only [Oper.quietUpon] at h3
        | ok n w' =>
          cases n <;> simp only [Oper.quietUpon] at h3 <;> simp only [Oper.upon]
          case value u => obtain ⟨e1, e2⟩ := h3; rw [e1, e2]; exact ih s _ _ w hw hk
          case skip => obtain ⟨e1, e2⟩ := h3; rw [e1, ← e2]; exact ih s _ _ w hw hk
          case enter g args =>
            obtain ⟨e1, hc⟩ := h3
            rw [e1]
            exact hc.mono fun e w'' ⟨he, hb⟩ => by subst he; exact ih s _ _ w'' (hst s w w'' hw hb) hk
      · rw [if_neg (by rw [hwt]; decide)]; exact ih s _ _ w hw hk
    · rw [if_pos hwt]
      refine .inl ?_
      obtain ⟨u, w', s', hr, hw', hk⟩ := hn w hw
      unfold Oper.wp
      rcases hr with hr | ⟨hr, rfl⟩ <;> rw [hr] <;> exact ih s' _ _ w' hw' hk
/-- A quiet operation that is ready and free may be taken first. -/
theorem anyS_first {i : Nat} {oi : Oper} {v : Value} (hi : ops[i]? = some oi) (hsel : ∀ (j : Nat) (o : Oper) cs b, ops[j]? = some o → o.op ≠ .select cs b) (f : Nat) :
    ∀ (s : S) (listed : Array Bool) (a : Act),
      (∀ j oj, ops[j]? = some oj → j ≠ i → listed.getD j true = false → (∀ e ∈ oj.after, Region.binds md e = true → e.on ≠ i) → oi.apart ops oj = true) →
      i ∈ Region.ready md ops listed → YieldsB P ops C oi v a → anyS P md ops C Cl Q f s (listed.setIfInBounds i true) (a.put oi.dst v) → anyS P md ops C Cl Q (f + 1) s listed a := by
  induction f with
  | zero =>
    intro s listed a _ hr hy H
    refine ⟨fun h => absurd hr (by rw [h]; simp), fun j hj => ?_⟩
    by_cases hji : j = i
    · subst hji; exact ⟨oi, hi, .inl ⟨v, hy, H⟩⟩
    · have := ready_mono hj hji
      rw [H.1] at this; cases this
  | succ f ih =>
    intro s listed a hfree hr hy H
    refine ⟨fun h => absurd hr (by rw [h]; simp), fun j hj => ?_⟩
    by_cases hji : j = i
    · subst hji; exact ⟨oi, hi, .inl ⟨v, hy, H⟩⟩
    obtain ⟨hjun, oj, hoj, hall⟩ := mem_ready.1 hj
    have hnot : ∀ e ∈ oj.after, Region.binds md e = true → e.on ≠ i := fun e he hb heq => by
      have h1 := hall e he hb
      rw [heq, getD_both (mem_ready.1 hr).1] at h1
      cases h1
    have hap := hfree j oj hoj hji hjun hnot
    obtain ⟨p1, p2, p3⟩ := Oper.apart_spec hap
    have keep : ∀ u, YieldsB P ops C oi v (a.put oj.dst u) := fun u => hy.same (execOp_put oi (fun cs b => hsel i oi cs b hi) a oj.dst u p3) (wanted_put oi a oj.dst u p3)
    have hfree' : ∀ k ok, ops[k]? = some ok → k ≠ i → (listed.setIfInBounds j true).getD k true = false → (∀ e ∈ ok.after, Region.binds md e = true → e.on ≠ i) → oi.apart ops ok = true := fun k ok hk hki hun hno => by
      refine hfree k ok hk hki ?_ hno
      by_cases hjk : j = k
      · subst hjk; exact hjun
      · rwa [getD_set_ne true hjk] at hun
    have go : ∀ s' u, anyS P md ops C Cl Q f s' ((listed.setIfInBounds i true).setIfInBounds j true) ((a.put oi.dst v).put oj.dst u) → anyS P md ops C Cl Q (f + 1) s' (listed.setIfInBounds j true) (a.put oj.dst u) := fun s' u h =>
      ih s' _ _ hfree' (ready_mono hr (Ne.symm hji)) (keep u) (by rw [Array.setIfInBounds_comm _ _ hji, ← Act.put_comm a v u p2]; exact h)
    have ex := execOp_put oj (fun cs b => hsel j oj cs b hoj) a oi.dst v p1
    have ew := wanted_put oj a oi.dst v p1
    obtain ⟨o, ho, h2⟩ := H.2 j (ready_mono hj hji)
    obtain rfl : oj = o := Option.some.inj (hoj.symm.trans ho)
    refine ⟨oj, hoj, ?_⟩
    rcases h2 with ⟨u, hyj, hk⟩ | ⟨hwt, hn⟩
    · exact .inl ⟨u, hyj.same ex.symm ew.symm, go s u hk⟩
    · refine .inr ⟨by rw [← ew]; exact hwt, fun w hw => ?_⟩
      obtain ⟨u, w', s', hr', hw', hk⟩ := hn w hw
      rw [ex] at hr'
      exact ⟨u, w', s', hr', hw', go s' u hk⟩
/-- The quiet ones, in the text's order. -/
def headS (P : Program) (ops : Array Oper) (C : World → Prop) (K : Act → Prop) : List Oper → Act → Prop
  | [], a => K a
  | o :: rest, a => if Region.wanted o (yielded ops a.tmps) then ∃ v, (∀ w, C w → o.quietAt P a (fun w' => Stays w w') w v) ∧ headS P ops C K rest (a.put o.dst v) else headS P ops C K rest (a.put o.dst undef)
/-- The others, in theirs. -/
def tailS (P : Program) (ops : Array Oper) (Cl : S → World → Prop) (Q : Exit → Act → World → Prop) : List Oper → S → Act → Prop
  | [], s, a => ∀ w, Cl s w → Q .normal a w
  | o :: rest, s, a => NoisyB P ops Cl o s a (tailS P ops Cl Q rest)
theorem anyS_tail (l : List Oper) : ∀ (k : Nat) (s : S) (listed : Array Bool) (a : Act), (∀ j, l[j]? = ops[k + j]?) → Region.seqB md ops l.length k listed = true → tailS P ops Cl Q l s a → anyS P md ops C Cl Q l.length s listed a := by
  induction l with
  | nil => intro k s listed a _ hB h; exact ⟨by simpa [Region.seqB] using hB, h⟩
  | cons o l ih =>
    intro k s listed a hl hB h
    have h0 : ops[k]? = some o := by simpa using (hl 0).symm
    simp only [List.length_cons, Region.seqB, Bool.and_eq_true, decide_eq_true_eq] at hB
    refine ⟨fun h1 => (by rw [hB.1] at h1; cases h1), fun i hi => ?_⟩
    rw [hB.1] at hi
    obtain rfl : i = k := by simpa using hi
    refine ⟨o, h0, .inr ⟨h.1, fun w hw => ?_⟩⟩
    obtain ⟨u, w', s', hr, hw', hk⟩ := h.2 w hw
    exact ⟨u, w', s', hr, hw', ih (i + 1) s' _ _ (fun j => by have := hl (j + 1); simpa [Nat.add_assoc, Nat.add_comm 1 j] using this) hB.2 hk⟩
theorem anyS_head {g : Nat} {s : S} (hsel : Region.noSelect ops = true) (n : Nat) (hg : ∀ listed a, (Region.seqB md ops g n listed = true) → ∀ K : Act → Prop, (∀ a', K a' → tailS P ops Cl Q (ops.toList.drop n) s a') → K a → anyS P md ops C Cl Q g s listed a) (K : Act → Prop)
    (hK : ∀ a', K a' → tailS P ops Cl Q (ops.toList.drop n) s a') (l : List Oper) : ∀ (k : Nat) (listed : Array Bool) (a : Act), (∀ j, j < l.length → l[j]? = ops[k + j]?) → k + l.length = n → Region.lexHead md ops g l.length k listed = true → headS P ops C K l a →
    anyS P md ops C Cl Q (l.length + g) s listed a := by
  induction l with
  | nil =>
    intro k listed a _ hk hB h
    obtain rfl : k = n := by simpa using hk
    rw [List.length_nil, Nat.zero_add]
    exact hg listed a (by simpa [Region.lexHead] using hB) K hK h
  | cons o l ih =>
    intro k listed a hl hk hB h
    have h0 : ops[k]? = some o := by simpa using (hl 0 (by simp)).symm
    simp only [List.length_cons, Region.lexHead, Bool.and_eq_true] at hB
    have hr' : k ∈ Region.ready md ops listed := by simpa using hB.1.1
    have e : (o :: l).length + g = (l.length + g) + 1 := by simp; omega
    rw [e]
    have nx : ∀ a', headS P ops C K l a' → anyS P md ops C Cl Q (l.length + g) s (listed.setIfInBounds k true) a' := fun a' h' =>
      ih (k + 1) _ a' (fun j hj => by have := hl (j + 1) (by simp; omega); simpa [Nat.add_assoc, Nat.add_comm 1 j] using this) (by simp only [List.length_cons] at hk; omega) hB.2 h'
    unfold headS at h
    by_cases hwt : Region.wanted o (yielded ops a.tmps) = true
    · rw [if_pos hwt] at h
      obtain ⟨v, hv, hrest⟩ := h
      exact anyS_first h0 (Region.noSelect_spec hsel) _ s listed a (Region.free_spec h0 hB.1.2) hr' (.inl ⟨hwt, hv⟩) (nx _ hrest)
    · rw [if_neg hwt] at h
      exact anyS_first h0 (Region.noSelect_spec hsel) _ s listed a (Region.free_spec h0 hB.1.2) hr' (.inr ⟨by simpa using hwt, rfl⟩) (nx _ h)
def stageB (ops : Array Oper) (n : Nat) : Bool := Region.noSelect ops && decide (n ≤ ops.size) && Region.lexHead .any ops (ops.size - n) n 0 (Array.replicate ops.size false)
theorem region_stage {id : Nat} {a : Act} {w : World} {l : List Oper} (n : Nat) (s : S) (hm : P.follows .mixedOrders = true) (hB : stageB l.toArray n = true) (hC : ∀ s w, Cl s w → C w) (hst : ∀ s w w', Cl s w → Below w.heap.size w w' → Cl s w') (h0 : Cl s w.drew)
    (h : headS P l.toArray C (tailS P l.toArray Cl Q (l.drop n) s) (l.take n) a) : (Code.region id l.toArray true).wp P Q a w := by
  simp only [stageB, Bool.and_eq_true, decide_eq_true_eq] at hB
  obtain ⟨⟨hsel, hn⟩, hlex⟩ := hB
  have hn' : n ≤ l.length := by simpa using hn
  have htl : (l.take n).length = n := by simp; omega
  have hdl : (l.drop n).length = l.toArray.size - n := by simp
  refine wp_region_any hm ?_
  have H := anyS_head (P := P) (C := C) (Cl := Cl) (Q := Q) (md := .any) (ops := l.toArray) (g := l.toArray.size - n) (s := s) hsel n (fun listed a' hs K hK hk => by
    have := anyS_tail (P := P) (md := .any) (C := C) (ops := l.toArray) (l.drop n) n s listed a' (fun j => by simp [List.getElem?_drop]) (by rw [hdl]; exact hs) (by simpa using hK a' hk)
    rwa [hdl] at this) (tailS P l.toArray Cl Q (l.drop n) s) (fun a' hk => by simpa using hk) (l.take n) 0 (Array.replicate l.toArray.size false) a (fun j hj => by
      have hj' : j < n := by rw [htl] at hj; exact hj
      simp [hj']) (by rw [htl]; omega) (by rw [htl]; exact hlex) h
  have K := wpAny_of_anyS hC hst _ s _ a w.drew h0 H
  rw [htl, show n + (l.toArray.size - n) = l.toArray.size by simp only [List.size_toArray]; omega] at K
  exact K
end
end Go.Proofs.Ytpfmcobkfofbjaa
