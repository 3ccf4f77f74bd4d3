/- StageF, with StageP ahead of it. -/
import Derived.Test.YtpfmcobkfofbjaaStage
namespace Go.Proofs.Ytpfmcobkfofbjaa
open Go Go.RowKit
section
variable {P : Program} {ops : Array Oper} {md : Region.Mode} {C : World → Prop} {S : Type} {Cl : S → World → Prop} {Q : Exit → Act → World → Prop}
def seqP (md : Region.Mode) (ops : Array Oper) : List Nat → Array Bool → Bool
  | [], listed => (Region.ready md ops listed).isEmpty
  | i :: ts, listed => decide (Region.ready md ops listed = [i]) && seqP md ops ts (listed.setIfInBounds i true)
def lexP (md : Region.Mode) (ops : Array Oper) : List Nat → List Nat → Array Bool → Bool
  | [], ts, listed => seqP md ops ts listed
  | i :: hs, ts, listed => (Region.ready md ops listed).contains i && Region.free md ops listed i && lexP md ops hs ts (listed.setIfInBounds i true)
/-- The quiet ones, at these places. -/
def headP (P : Program) (ops : Array Oper) (C : World → Prop) (K : Act → Prop) : List Nat → Act → Prop
  | [], a => K a
  | i :: is, a => ∃ o, ops[i]? = some o ∧ if Region.wanted o (yielded ops a.tmps) then ∃ v, (∀ w, C w → o.quietAt P a (fun w' => Stays w w') w v) ∧ headP P ops C K is (a.put o.dst v) else headP P ops C K is (a.put o.dst undef)
/-- The others, at theirs. -/
def tailP (P : Program) (ops : Array Oper) (Cl : S → World → Prop) (Q : Exit → Act → World → Prop) : List Nat → S → Act → Prop
  | [], s, a => ∀ w, Cl s w → Q .normal a w
  | i :: is, s, a => ∃ o, ops[i]? = some o ∧ NoisyB P ops Cl o s a (tailP P ops Cl Q is)
theorem headP_step {K : Act → Prop} {a : Act} {o : Oper} {i : Nat} {is : List Nat} (ho : ops[i]? = some o)
    (h : ∀ K' : Act → Prop, (∀ a, headP P ops C K is a → K' a) → if Region.wanted o (yielded ops a.tmps) then ∃ v, (∀ w, C w → o.quietAt P a (fun w' => Stays w w') w v) ∧ K' (a.put o.dst v) else K' (a.put o.dst undef)) : headP P ops C K (i :: is) a :=
  ⟨o, ho, h _ (fun _ h => h)⟩
theorem headP_nil {K : Act → Prop} {a : Act} (h : K a) : headP P ops C K [] a := h
theorem anyS_tailP (ts : List Nat) : ∀ (s : S) (listed : Array Bool) (a : Act), seqP md ops ts listed = true → tailP P ops Cl Q ts s a → anyS P md ops C Cl Q ts.length s listed a := by
  induction ts with
  | nil => intro s listed a hB h; exact ⟨by simpa [seqP] using hB, h⟩
  | cons i ts ih =>
    intro s listed a hB h
    obtain ⟨o, h0, h⟩ := h
    simp only [seqP, Bool.and_eq_true, decide_eq_true_eq] at hB
    refine ⟨fun h1 => (by rw [hB.1] at h1; cases h1), fun j hj => ?_⟩
    rw [hB.1] at hj
    obtain rfl : j = i := by simpa using hj
    refine ⟨o, h0, .inr ⟨h.1, fun w hw => ?_⟩⟩
    obtain ⟨u, w', s', hr, hw', hk⟩ := h.2 w hw
    exact ⟨u, w', s', hr, hw', ih s' _ _ hB.2 hk⟩
theorem anyS_headP {s : S} (hsel : Region.noSelect ops = true) (ts : List Nat) (hs : List Nat) : ∀ (listed : Array Bool) (a : Act), lexP md ops hs ts listed = true → headP P ops C (tailP P ops Cl Q ts s) hs a → anyS P md ops C Cl Q (hs.length + ts.length) s listed a := by
  induction hs with
  | nil =>
    intro listed a hB h
    rw [List.length_nil, Nat.zero_add]
    exact anyS_tailP ts s listed a (by simpa [lexP] using hB) h
  | cons i hs ih =>
    intro listed a hB h
    obtain ⟨o, h0, h⟩ := h
    simp only [lexP, Bool.and_eq_true] at hB
    have hr' : i ∈ Region.ready md ops listed := by simpa using hB.1.1
    have e : (i :: hs).length + ts.length = (hs.length + ts.length) + 1 := by simp; omega
    rw [e]
    by_cases hwt : Region.wanted o (yielded ops a.tmps) = true
    · rw [if_pos hwt] at h
      obtain ⟨v, hv, hrest⟩ := h
      exact anyS_first h0 (Region.noSelect_spec hsel) _ s listed a (Region.free_spec h0 hB.1.2) hr' (.inl ⟨hwt, hv⟩) (ih _ _ hB.2 hrest)
    · rw [if_neg hwt] at h
      exact anyS_first h0 (Region.noSelect_spec hsel) _ s listed a (Region.free_spec h0 hB.1.2) hr' (.inr ⟨by simpa using hwt, rfl⟩) (ih _ _ hB.2 h)
def stageP (ops : Array Oper) (hs ts : List Nat) : Bool := Region.noSelect ops && decide (hs.length + ts.length = ops.size) && lexP .any ops hs ts (Array.replicate ops.size false)
theorem region_stageP {id : Nat} {a : Act} {w : World} {l : Array Oper} (hs ts : List Nat) (s : S) (hm : P.follows .mixedOrders = true) (hB : stageP l hs ts = true) (hC : ∀ s w, Cl s w → C w) (hst : ∀ s w w', Cl s w → Below w.heap.size w w' → Cl s w') (h0 : Cl s w.drew)
    (h : headP P l C (tailP P l Cl Q ts s) hs a) : (Code.region id l true).wp P Q a w := by
  simp only [stageP, Bool.and_eq_true, decide_eq_true_eq] at hB
  obtain ⟨⟨hsel, hn⟩, hlex⟩ := hB
  refine wp_region_any hm ?_
  have H := anyS_headP (P := P) (C := C) (Cl := Cl) (Q := Q) (md := .any) (ops := l) (s := s) hsel ts hs (Array.replicate l.size false) a hlex h
  rw [hn] at H
  exact wpAny_of_anyS hC hst _ s _ a w.drew h0 H
end
end Go.Proofs.Ytpfmcobkfofbjaa
namespace Go.Proofs.Ytpfmcobkfofbjaa
open Go Go.RowKit
section
variable {P : Program} {ops : Array Oper} {md : Region.Mode} {C : World → Prop} {S : Type} {Cl : S → World → Prop} {Q : Exit → Act → World → Prop} {fin : S → Bool} {last : Nat}
def anyF (P : Program) (md : Region.Mode) (ops : Array Oper) (C : World → Prop) (Cl : S → World → Prop) (Q : Exit → Act → World → Prop) (fin : S → Bool) (last : Nat) : Nat → S → Array Bool → Act → Prop
  | 0, s, listed, a => Region.ready md ops listed = [] ∧ ∀ w, Cl s w → Q .normal a w
  | f + 1, s, listed, a => (Region.ready md ops listed = [] → ∀ w, Cl s w → Q .normal a w) ∧
    ∀ i ∈ Region.ready md ops listed, ∃ o, ops[i]? = some o ∧
      ((fin s = false ∧ ∃ v, YieldsB P ops C o v a ∧ anyF P md ops C Cl Q fin last f s (listed.setIfInBounds i true) (a.put o.dst v)) ∨
        NoisyB P ops Cl o s a (fun s' a' => (fin s' = true → i = last) ∧ anyF P md ops C Cl Q fin last f s' (listed.setIfInBounds i true) a'))
theorem wpAny_of_anyF (hC : ∀ s w, fin s = false → Cl s w → C w) (hst : ∀ s w w', Cl s w → Below w.heap.size w w' → Cl s w') (f : Nat) :
    ∀ (s : S) (listed : Array Bool) (a : Act) (w : World), Cl s w → anyF P md ops C Cl Q fin last f s listed a → wpAny P md ops Q f listed a w := by
  induction f with
  | zero => intro s listed a w hw h; exact ⟨h.1, h.2 w hw⟩
  | succ f ih =>
    intro s listed a w hw h
    refine ⟨fun h0 => h.1 h0 w hw, fun i hi => ?_⟩
    obtain ⟨o, ho, h2⟩ := h.2 i hi
    unfold wpOp
    simp only [ho]
    rcases h2 with ⟨hfs, v, hy, hk⟩ | ⟨hwt, hn⟩
    · rcases hy with ⟨hwt, hq⟩ | ⟨hwt, rfl⟩
      · rw [if_pos hwt]
        refine .inl ?_
        have h3 := hq w (hC s w hfs hw)
        unfold Oper.quietAt at h3
        unfold Oper.wp
        generalize (execOp a.eval o).run P w = r at *
        cases r with
        | halt x w' => simp only [Oper.quietUpon] at h3
        | ok n w' =>
          cases n <;> simp only [Oper.quietUpon] at h3 <;> simp only [Oper.upon]
          case value u => obtain ⟨e1, e2⟩ := h3; rw [e1, e2]; exact ih s _ _ w hw hk
          case skip => obtain ⟨e1, e2⟩ := h3; rw [e1, ← e2]; exact ih s _ _ w hw hk
          case enter g args =>
            obtain ⟨e1, hc⟩ := h3
            rw [e1]
            exact hc.mono fun e w'' ⟨he, hb⟩ => by subst he; exact ih s _ _ w'' (hst s w w'' hw hb) hk
      · rw [if_neg (by rw [hwt]; decide)]; exact ih s _ _ w hw hk
    · rw [if_pos hwt]
      refine .inl ?_
      obtain ⟨u, w', s', hr, hw', _, hk⟩ := hn w hw
      unfold Oper.wp
      rcases hr with hr | ⟨hr, rfl⟩ <;> rw [hr] <;> exact ih s' _ _ w' hw' hk
theorem anyF_first {i : Nat} {oi : Oper} {v : Value} (hi : ops[i]? = some oi) (hsel : ∀ (j : Nat) (o : Oper) cs b, ops[j]? = some o → o.op ≠ .select cs b) (hdep : ∀ o, ops[last]? = some o → ∃ e ∈ o.after, Region.binds md e = true ∧ e.on = i) (f : Nat) :
    ∀ (s : S) (listed : Array Bool) (a : Act), fin s = false →
      (∀ j oj, ops[j]? = some oj → j ≠ i → listed.getD j true = false → (∀ e ∈ oj.after, Region.binds md e = true → e.on ≠ i) → oi.apart ops oj = true) →
      i ∈ Region.ready md ops listed → YieldsB P ops C oi v a → anyF P md ops C Cl Q fin last f s (listed.setIfInBounds i true) (a.put oi.dst v) → anyF P md ops C Cl Q fin last (f + 1) s listed a := by
  induction f with
  | zero =>
    intro s listed a hfs _ hr hy H
    refine ⟨fun h => absurd hr (by rw [h]; simp), fun j hj => ?_⟩
    by_cases hji : j = i
    · subst hji; exact ⟨oi, hi, .inl ⟨hfs, v, hy, H⟩⟩
    · have := ready_mono hj hji
      rw [H.1] at this; cases this
  | succ f ih =>
    intro s listed a hfs hfree hr hy H
    refine ⟨fun h => absurd hr (by rw [h]; simp), fun j hj => ?_⟩
    by_cases hji : j = i
    · subst hji; exact ⟨oi, hi, .inl ⟨hfs, v, hy, H⟩⟩
    obtain ⟨hjun, oj, hoj, hall⟩ := mem_ready.1 hj
    have hnot : ∀ e ∈ oj.after, Region.binds md e = true → e.on ≠ i := fun e he hb heq => by
      have h1 := hall e he hb
      rw [heq, getD_both (mem_ready.1 hr).1] at h1
      cases h1
    have hjl : j ≠ last := fun q => by
      subst q
      obtain ⟨e, he, hb, ho⟩ := hdep oj hoj
      exact hnot e he hb ho
    have hap := hfree j oj hoj hji hjun hnot
    obtain ⟨p1, p2, p3⟩ := Oper.apart_spec hap
    have keep : ∀ u, YieldsB P ops C oi v (a.put oj.dst u) := fun u => hy.same (execOp_put oi (fun cs b => hsel i oi cs b hi) a oj.dst u p3) (wanted_put oi a oj.dst u p3)
    have hfree' : ∀ k ok, ops[k]? = some ok → k ≠ i → (listed.setIfInBounds j true).getD k true = false → (∀ e ∈ ok.after, Region.binds md e = true → e.on ≠ i) → oi.apart ops ok = true := fun k ok hk hki hun hno => by
      refine hfree k ok hk hki ?_ hno
      by_cases hjk : j = k
      · subst hjk; exact hjun
      · rwa [getD_set_ne true hjk] at hun
    have go : ∀ s' u, fin s' = false → anyF P md ops C Cl Q fin last f s' ((listed.setIfInBounds i true).setIfInBounds j true) ((a.put oi.dst v).put oj.dst u) → anyF P md ops C Cl Q fin last (f + 1) s' (listed.setIfInBounds j true) (a.put oj.dst u) := fun s' u hf' h =>
      ih s' _ _ hf' hfree' (ready_mono hr (Ne.symm hji)) (keep u) (by rw [Array.setIfInBounds_comm _ _ hji, ← Act.put_comm a v u p2]; exact h)
    have ex := execOp_put oj (fun cs b => hsel j oj cs b hoj) a oi.dst v p1
    have ew := wanted_put oj a oi.dst v p1
    obtain ⟨o, ho, h2⟩ := H.2 j (ready_mono hj hji)
    obtain rfl : oj = o := Option.some.inj (hoj.symm.trans ho)
    refine ⟨oj, hoj, ?_⟩
    rcases h2 with ⟨_, u, hyj, hk⟩ | ⟨hwt, hn⟩
    · exact .inl ⟨hfs, u, hyj.same ex.symm ew.symm, go s u hfs hk⟩
    · refine .inr ⟨by rw [← ew]; exact hwt, fun w hw => ?_⟩
      obtain ⟨u, w', s', hr', hw', hl', hk⟩ := hn w hw
      rw [ex] at hr'
      have hf' : fin s' = false := by
        cases q : fin s' with
        | false => rfl
        | true => exact absurd (hl' q) hjl
      exact ⟨u, w', s', hr', hw', hl', go s' u hf' hk⟩
def tailF (P : Program) (ops : Array Oper) (Cl : S → World → Prop) (Q : Exit → Act → World → Prop) (fin : S → Bool) (last : Nat) : List Nat → S → Act → Prop
  | [], s, a => ∀ w, Cl s w → Q .normal a w
  | i :: is, s, a => ∃ o, ops[i]? = some o ∧ NoisyB P ops Cl o s a (fun s' a' => (fin s' = true → i = last) ∧ tailF P ops Cl Q fin last is s' a')
theorem anyF_tail (ts : List Nat) : ∀ (s : S) (listed : Array Bool) (a : Act), seqP md ops ts listed = true → tailF P ops Cl Q fin last ts s a → anyF P md ops C Cl Q fin last ts.length s listed a := by
  induction ts with
  | nil => intro s listed a hB h; exact ⟨by simpa [seqP] using hB, h⟩
  | cons i ts ih =>
    intro s listed a hB h
    obtain ⟨o, h0, h⟩ := h
    simp only [seqP, Bool.and_eq_true, decide_eq_true_eq] at hB
    refine ⟨fun h1 => (by rw [hB.1] at h1; cases h1), fun j hj => ?_⟩
    rw [hB.1] at hj
    obtain rfl : j = i := by simpa using hj
    refine ⟨o, h0, .inr ⟨h.1, fun w hw => ?_⟩⟩
    obtain ⟨u, w', s', hr, hw', hl, hk⟩ := h.2 w hw
    exact ⟨u, w', s', hr, hw', hl, ih s' _ _ hB.2 hk⟩
def lastB (md : Region.Mode) (ops : Array Oper) (last i : Nat) : Bool := match ops[last]? with
  | some o => o.after.any fun e => Region.binds md e && e.on == i
  | none => false
theorem anyF_head {s : S} (hsel : Region.noSelect ops = true) (hfs : fin s = false) (ts : List Nat) (hs : List Nat) : ∀ (listed : Array Bool) (a : Act), (∀ i ∈ hs, lastB md ops last i = true) → lexP md ops hs ts listed = true → headP P ops C (tailF P ops Cl Q fin last ts s) hs a → anyF P md ops C Cl Q fin last (hs.length + ts.length) s listed a := by
  induction hs with
  | nil =>
    intro listed a _ hB h
    rw [List.length_nil, Nat.zero_add]
    exact anyF_tail ts s listed a (by simpa [lexP] using hB) h
  | cons i hs ih =>
    intro listed a hL hB h
    obtain ⟨o, h0, h⟩ := h
    simp only [lexP, Bool.and_eq_true] at hB
    have hr' : i ∈ Region.ready md ops listed := by simpa using hB.1.1
    have e : (i :: hs).length + ts.length = (hs.length + ts.length) + 1 := by simp; omega
    have hdep : ∀ o, ops[last]? = some o → ∃ e ∈ o.after, Region.binds md e = true ∧ e.on = i := fun o ho => by
      have h9 := hL i (List.mem_cons_self ..)
      simp only [lastB, ho, Array.any_eq_true', Bool.and_eq_true, beq_iff_eq] at h9
      exact h9
    rw [e]
    have ih' := fun l' a' => ih l' a' (fun x hx => hL x (List.mem_cons_of_mem _ hx))
    by_cases hwt : Region.wanted o (yielded ops a.tmps) = true
    · rw [if_pos hwt] at h
      obtain ⟨v, hv, hrest⟩ := h
      exact anyF_first h0 (Region.noSelect_spec hsel) hdep _ s listed a hfs (Region.free_spec h0 hB.1.2) hr' (.inl ⟨hwt, hv⟩) (ih' _ _ hB.2 hrest)
    · rw [if_neg hwt] at h
      exact anyF_first h0 (Region.noSelect_spec hsel) hdep _ s listed a hfs (Region.free_spec h0 hB.1.2) hr' (.inr ⟨by simpa using hwt, rfl⟩) (ih' _ _ hB.2 h)
def stageF (ops : Array Oper) (hs ts : List Nat) (last : Nat) : Bool := stageP ops hs ts && hs.all (lastB .any ops last)
theorem region_stageF {id : Nat} {a : Act} {w : World} {l : Array Oper} (hs ts : List Nat) (last : Nat) (fin : S → Bool) (s : S) (hfs : fin s = false) (hm : P.follows .mixedOrders = true) (hB : stageF l hs ts last = true) (hC : ∀ s w, fin s = false → Cl s w → C w) (hst : ∀ s w w', Cl s w → Below w.heap.size w w' → Cl s w') (h0 : Cl s w.drew)
    (h : headP P l C (tailF P l Cl Q fin last ts s) hs a) : (Code.region id l true).wp P Q a w := by
  simp only [stageF, stageP, Bool.and_eq_true, decide_eq_true_eq, List.all_eq_true] at hB
  obtain ⟨⟨⟨hsel, hn⟩, hlex⟩, hla⟩ := hB
  refine wp_region_any hm ?_
  have H := anyF_head (P := P) (C := C) (Cl := Cl) (Q := Q) (md := .any) (ops := l) (s := s) (fin := fin) (last := last) hsel hfs ts hs (Array.replicate l.size false) a hla hlex h
  rw [hn] at H
  exact wpAny_of_anyF hC hst _ s _ a w.drew h0 H
end
end Go.Proofs.Ytpfmcobkfofbjaa
