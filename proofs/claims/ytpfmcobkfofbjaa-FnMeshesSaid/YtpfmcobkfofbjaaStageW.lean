/- A region that draws its order, walked in an order of one's own: quiet operations (some of them only ahead of a last store), then the others, calls among them. -/
import Derived.Test.YtpfmcobkfofbjaaStageF
namespace Go.Proofs.Ytpfmcobkfofbjaa
open Go Go.RowKit
/-- What an operation comes to: a value, and a world. -/
def Oper.givesAt (P : Program) (a : Act) (o : Oper) (R : Value → World → Prop) (w : World) : Prop :=
  match (execOp a.eval o).run P w with
  | .ok (.value u) w' => R u w'
  | .ok .skip w' => R undef w'
  | .ok (.enter g args) w' => Calls P g args w' fun e w'' => ∃ u, e = .returned u ∧ R u w''
  | _ => False
section
variable {P : Program} {ops : Array Oper} {md : Region.Mode} {C D : World → Prop} {S : Type} {Cl : S → World → Prop} {Q : Exit → Act → World → Prop} {fin : S → Bool} {last : Nat}
theorem gives_value {a : Act} {o : Oper} {R : Value → World → Prop} {w w' : World} {u : Value} (h : (execOp a.eval o).run P w = .ok (.value u) w') (hR : R u w') : Oper.givesAt P a o R w := by
  unfold Oper.givesAt; rw [h]; exact hR
theorem gives_skip {a : Act} {o : Oper} {R : Value → World → Prop} {w w' : World} (h : (execOp a.eval o).run P w = .ok .skip w') (hR : R undef w') : Oper.givesAt P a o R w := by
  unfold Oper.givesAt; rw [h]; exact hR
theorem gives_call {a : Act} {o : Oper} {R : Value → World → Prop} {w w' : World} {g : FuncId} {args : Array Value} (hR : Calls P g args w' fun e w'' => ∃ u, e = .returned u ∧ R u w'') (h : (execOp a.eval o).run P w = .ok (.enter g args) w') : Oper.givesAt P a o R w := by
  unfold Oper.givesAt; rw [h]; exact hR
theorem Oper.givesAt.mono {a : Act} {o : Oper} {R R' : Value → World → Prop} {w : World} (h : Oper.givesAt P a o R w) (hR : ∀ u w', R u w' → R' u w') : Oper.givesAt P a o R' w := by
  unfold Oper.givesAt at *
  generalize (execOp a.eval o).run P w = r at *
  cases r with
  | halt x w' => exact h
  | ok n w' =>
    cases n
    case value u => exact hR _ _ h
    case skip => exact hR _ _ h
    case enter g args => exact Calls.mono h fun e w'' ⟨u, he, hr⟩ => ⟨u, he, hR _ _ hr⟩
    all_goals exact h
def GivesB (P : Program) (ops : Array Oper) (Cl : S → World → Prop) (o : Oper) (s : S) (a : Act) (K : S → Act → Prop) : Prop :=
  Region.wanted o (yielded ops a.tmps) = true ∧ ∀ w, Cl s w → Oper.givesAt P a o (fun u w' => ∃ s', Cl s' w' ∧ K s' (a.put o.dst u)) w
def anyW (P : Program) (md : Region.Mode) (ops : Array Oper) (C D : World → Prop) (Cl : S → World → Prop) (Q : Exit → Act → World → Prop) (fin : S → Bool) (last : Nat) : Nat → S → Array Bool → Act → Prop
  | 0, s, listed, a => Region.ready md ops listed = [] ∧ ∀ w, Cl s w → Q .normal a w
  | f + 1, s, listed, a => (Region.ready md ops listed = [] → ∀ w, Cl s w → Q .normal a w) ∧
    ∀ i ∈ Region.ready md ops listed, ∃ o, ops[i]? = some o ∧
      ((∃ v, ((fin s = false ∧ YieldsB P ops C o v a) ∨ YieldsB P ops D o v a) ∧ anyW P md ops C D Cl Q fin last f s (listed.setIfInBounds i true) (a.put o.dst v)) ∨
        GivesB P ops Cl o s a (fun s' a' => (fin s = false → fin s' = true → i = last) ∧ anyW P md ops C D Cl Q fin last f s' (listed.setIfInBounds i true) a'))
theorem wpAny_of_anyW (hC : ∀ s w, fin s = false → Cl s w → C w) (hD : ∀ s w, Cl s w → D w) (hst : ∀ s w w', Cl s w → Below w.heap.size w w' → Cl s w') (f : Nat) :
    ∀ (s : S) (listed : Array Bool) (a : Act) (w : World), Cl s w → anyW P md ops C D Cl Q fin last f s listed a → wpAny P md ops Q f listed a w := by
  induction f with
  | zero => intro s listed a w hw h; exact ⟨h.1, h.2 w hw⟩
  | succ f ih =>
    intro s listed a w hw h
    refine ⟨fun h0 => h.1 h0 w hw, fun i hi => ?_⟩
    obtain ⟨o, ho, h2⟩ := h.2 i hi
    unfold wpOp
    simp only [ho]
    rcases h2 with ⟨v, hy, hk⟩ | ⟨hwt, hn⟩
    · have hy' : (Region.wanted o (yielded ops a.tmps) = true ∧ o.quietAt P a (fun w' => Stays w w') w v) ∨ (Region.wanted o (yielded ops a.tmps) = false ∧ v = undef) := by
        rcases hy with ⟨hf, h | h⟩ | h | h
        · exact .inl ⟨h.1, h.2 w (hC s w hf hw)⟩
        · exact .inr h
        · exact .inl ⟨h.1, h.2 w (hD s w hw)⟩
        · exact .inr h
      rcases hy' with ⟨hwt, h3⟩ | ⟨hwt, rfl⟩
      · rw [if_pos hwt]
        refine .inl ?_
        unfold Oper.quietAt at h3
        unfold Oper.wp
        generalize (execOp a.eval o).run P w = r at *
        cases r with
        | halt x w' => simp only [Oper.quietUpon] at h3
        | ok n w' =>
          cases n <;> simp only [Oper.quietUpon] at h3 <;> simp only [Oper.upon]
          case value u => obtain ⟨e1, e2⟩ := h3; rw [e1, e2]; exact ih s _ _ w hw hk
          case skip => obtain ⟨e1, e2⟩ := h3; rw [e1, ← e2]; exact ih s _ _ w hw hk
          case enter g args =>
            obtain ⟨e1, hc⟩ := h3
            rw [e1]
            exact hc.mono fun e w'' ⟨he, hb⟩ => by subst he; exact ih s _ _ w'' (hst s w w'' hw hb) hk
      · rw [if_neg (by rw [hwt]; decide)]; exact ih s _ _ w hw hk
    · rw [if_pos hwt]
      refine .inl ?_
      have h3 := hn w hw
      unfold Oper.givesAt at h3
      unfold Oper.wp
      generalize (execOp a.eval o).run P w = r at *
      cases r with
      | halt x w' => exact h3.elim
      | ok n w' =>
        cases n <;> simp only at h3 <;> simp only [Oper.upon]
        case value u => obtain ⟨s', hw', _, hk⟩ := h3; exact ih s' _ _ w' hw' hk
        case skip => obtain ⟨s', hw', _, hk⟩ := h3; exact ih s' _ _ w' hw' hk
        case enter g args => exact Calls.mono h3 fun e w'' ⟨u, he, s', hw', _, hk⟩ => by subst he; exact ih s' _ _ w'' hw' hk
theorem anyW_first {i : Nat} {oi : Oper} {v : Value} (hi : ops[i]? = some oi) (hsel : ∀ (j : Nat) (o : Oper) cs b, ops[j]? = some o → o.op ≠ .select cs b) (f : Nat) :
    ∀ (s : S) (listed : Array Bool) (a : Act),
      (∀ j oj, ops[j]? = some oj → j ≠ i → listed.getD j true = false → (∀ e ∈ oj.after, Region.binds md e = true → e.on ≠ i) → oi.apart ops oj = true) →
      i ∈ Region.ready md ops listed → ((fin s = false ∧ (∀ o, ops[last]? = some o → ∃ e ∈ o.after, Region.binds md e = true ∧ e.on = i) ∧ YieldsB P ops C oi v a) ∨ YieldsB P ops D oi v a) → anyW P md ops C D Cl Q fin last f s (listed.setIfInBounds i true) (a.put oi.dst v) → anyW P md ops C D Cl Q fin last (f + 1) s listed a := by
  induction f with
  | zero =>
    intro s listed a _ hr hy H
    refine ⟨fun h => absurd hr (by rw [h]; simp), fun j hj => ?_⟩
    by_cases hji : j = i
    · subst hji; exact ⟨oi, hi, .inl ⟨v, hy.imp (fun h => ⟨h.1, h.2.2⟩) id, H⟩⟩
    · have := ready_mono hj hji
      rw [H.1] at this; cases this
  | succ f ih =>
    intro s listed a hfree hr hy H
    refine ⟨fun h => absurd hr (by rw [h]; simp), fun j hj => ?_⟩
    by_cases hji : j = i
    · subst hji; exact ⟨oi, hi, .inl ⟨v, hy.imp (fun h => ⟨h.1, h.2.2⟩) id, H⟩⟩
    obtain ⟨hjun, oj, hoj, hall⟩ := mem_ready.1 hj
    have hnot : ∀ e ∈ oj.after, Region.binds md e = true → e.on ≠ i := fun e he hb heq => by
      have h1 := hall e he hb
      rw [heq, getD_both (mem_ready.1 hr).1] at h1
      cases h1
    have hap := hfree j oj hoj hji hjun hnot
    obtain ⟨p1, p2, p3⟩ := Oper.apart_spec hap
    have keep : ∀ (E : World → Prop) u, YieldsB P ops E oi v a → YieldsB P ops E oi v (a.put oj.dst u) := fun E u h => h.same (execOp_put oi (fun cs b => hsel i oi cs b hi) a oj.dst u p3) (wanted_put oi a oj.dst u p3)
    have hfree' : ∀ k ok, ops[k]? = some ok → k ≠ i → (listed.setIfInBounds j true).getD k true = false → (∀ e ∈ ok.after, Region.binds md e = true → e.on ≠ i) → oi.apart ops ok = true := fun k ok hk hki hun hno => by
      refine hfree k ok hk hki ?_ hno
      by_cases hjk : j = k
      · subst hjk; exact hjun
      · rwa [getD_set_ne true hjk] at hun
    have go : ∀ s' u, ((fin s' = false ∧ (∀ o, ops[last]? = some o → ∃ e ∈ o.after, Region.binds md e = true ∧ e.on = i) ∧ YieldsB P ops C oi v a) ∨ YieldsB P ops D oi v a) → anyW P md ops C D Cl Q fin last f s' ((listed.setIfInBounds i true).setIfInBounds j true) ((a.put oi.dst v).put oj.dst u) → anyW P md ops C D Cl Q fin last (f + 1) s' (listed.setIfInBounds j true) (a.put oj.dst u) := fun s' u hy' h =>
      ih s' _ _ hfree' (ready_mono hr (Ne.symm hji)) (hy'.imp (fun h => ⟨h.1, h.2.1, keep _ u h.2.2⟩) (keep _ u)) (by rw [Array.setIfInBounds_comm _ _ hji, ← Act.put_comm a v u p2]; exact h)
    have ex := execOp_put oj (fun cs b => hsel j oj cs b hoj) a oi.dst v p1
    have ew := wanted_put oj a oi.dst v p1
    obtain ⟨o, ho, h2⟩ := H.2 j (ready_mono hj hji)
    obtain rfl : oj = o := Option.some.inj (hoj.symm.trans ho)
    refine ⟨oj, hoj, ?_⟩
    rcases h2 with ⟨u, hyj, hk⟩ | ⟨hwt, hn⟩
    · exact .inl ⟨u, hyj.imp (fun h => ⟨h.1, h.2.same ex.symm ew.symm⟩) (fun h => h.same ex.symm ew.symm), go s u hy hk⟩
    · refine .inr ⟨by rw [← ew]; exact hwt, fun w hw => ?_⟩
      have h3 := hn w hw
      have h4 : Oper.givesAt P a oj (fun u w' => ∃ s', Cl s' w' ∧ (fin s = false → fin s' = true → j = last) ∧ anyW P md ops C D Cl Q fin last f s' ((listed.setIfInBounds i true).setIfInBounds j true) ((a.put oi.dst v).put oj.dst u)) w := by
        unfold Oper.givesAt at *
        rw [← ex]; exact h3
      refine h4.mono fun u w' ⟨s', hw', hl', hk⟩ => ⟨s', hw', hl', go s' u ?_ hk⟩
      rcases hy with ⟨hf, hdep, hY⟩ | hY
      · refine .inl ⟨?_, hdep, hY⟩
        cases q : fin s' with
        | false => rfl
        | true =>
          have hjl := hl' hf q
          subst hjl
          obtain ⟨e, he, hb, ho'⟩ := hdep oj hoj
          exact absurd ho' (hnot e he hb)
      · exact .inr hY
/-- The quiet ones, at their places; those marked with true only ahead of the last store. -/
def headW (P : Program) (ops : Array Oper) (C D : World → Prop) (K : Act → Prop) : List (Nat × Bool) → Act → Prop
  | [], a => K a
  | (i, b) :: is, a => ∃ o, ops[i]? = some o ∧ if Region.wanted o (yielded ops a.tmps) then ∃ v, (∀ w, (if b then C w else D w) → o.quietAt P a (fun w' => Stays w w') w v) ∧ headW P ops C D K is (a.put o.dst v) else headW P ops C D K is (a.put o.dst undef)
def tailW (P : Program) (ops : Array Oper) (Cl : S → World → Prop) (Q : Exit → Act → World → Prop) (fin : S → Bool) (last : Nat) : List Nat → S → Act → Prop
  | [], s, a => ∀ w, Cl s w → Q .normal a w
  | i :: is, s, a => ∃ o, ops[i]? = some o ∧ GivesB P ops Cl o s a (fun s' a' => (fin s = false → fin s' = true → i = last) ∧ tailW P ops Cl Q fin last is s' a')
theorem headW_step {K : Act → Prop} {a : Act} {o : Oper} {i : Nat} {b : Bool} {is : List (Nat × Bool)} (ho : ops[i]? = some o)
    (h : ∀ K' : Act → Prop, (∀ a, headW P ops C D K is a → K' a) → if Region.wanted o (yielded ops a.tmps) then ∃ v, (∀ w, (if b then C w else D w) → o.quietAt P a (fun w' => Stays w w') w v) ∧ K' (a.put o.dst v) else K' (a.put o.dst undef)) : headW P ops C D K ((i, b) :: is) a :=
  ⟨o, ho, h _ (fun _ h => h)⟩
theorem headW_nil {K : Act → Prop} {a : Act} (h : K a) : headW P ops C D K [] a := h
theorem tailW_nil {s : S} {a : Act} (h : ∀ w, Cl s w → Q .normal a w) : tailW P ops Cl Q fin last [] s a := h
theorem tailW_step {a : Act} {o : Oper} {i : Nat} {is : List Nat} {s : S} (ho : ops[i]? = some o) (hw : Region.wanted o (yielded ops a.tmps) = true)
    (h : ∀ w, Cl s w → Oper.givesAt P a o (fun u w' => ∃ s', Cl s' w' ∧ (fin s = false → fin s' = true → i = last) ∧ tailW P ops Cl Q fin last is s' (a.put o.dst u)) w) : tailW P ops Cl Q fin last (i :: is) s a :=
  ⟨o, ho, hw, h⟩
theorem anyW_tail (ts : List Nat) : ∀ (s : S) (listed : Array Bool) (a : Act), seqP md ops ts listed = true → tailW P ops Cl Q fin last ts s a → anyW P md ops C D Cl Q fin last ts.length s listed a := by
  induction ts with
  | nil => intro s listed a hB h; exact ⟨by simpa [seqP] using hB, h⟩
  | cons i ts ih =>
    intro s listed a hB h
    obtain ⟨o, h0, h⟩ := h
    simp only [seqP, Bool.and_eq_true, decide_eq_true_eq] at hB
    refine ⟨fun h1 => (by rw [hB.1] at h1; cases h1), fun j hj => ?_⟩
    rw [hB.1] at hj
    obtain rfl : j = i := by simpa using hj
    exact ⟨o, h0, .inr ⟨h.1, fun w hw => (h.2 w hw).mono fun u w' ⟨s', hw', hl, hk⟩ => ⟨s', hw', hl, ih s' _ _ hB.2 hk⟩⟩⟩
theorem anyW_head {s : S} (hsel : Region.noSelect ops = true) (hfs : fin s = false) (ts : List Nat) (hs : List (Nat × Bool)) : ∀ (listed : Array Bool) (a : Act), (∀ x ∈ hs, x.2 = true → lastB md ops last x.1 = true) → lexP md ops (hs.map (·.1)) ts listed = true → headW P ops C D (tailW P ops Cl Q fin last ts s) hs a → anyW P md ops C D Cl Q fin last (hs.length + ts.length) s listed a := by
  induction hs with
  | nil =>
    intro listed a _ hB h
    rw [List.length_nil, Nat.zero_add]
    exact anyW_tail ts s listed a (by simpa [lexP] using hB) h
  | cons x hs ih =>
    obtain ⟨i, b⟩ := x
    intro listed a hL hB h
    obtain ⟨o, h0, h⟩ := h
    simp only [List.map_cons, lexP, Bool.and_eq_true] at hB
    have hr' : i ∈ Region.ready md ops listed := by simpa using hB.1.1
    have e : ((i, b) :: hs).length + ts.length = (hs.length + ts.length) + 1 := by simp; omega
    have hdep : b = true → ∀ o, ops[last]? = some o → ∃ e ∈ o.after, Region.binds md e = true ∧ e.on = i := fun hb o ho => by
      have h9 := hL (i, b) (List.mem_cons_self ..) hb
      simp only [lastB, ho, Array.any_eq_true', Bool.and_eq_true, beq_iff_eq] at h9
      exact h9
    rw [e]
    have ih' := fun l' a' => ih l' a' (fun x hx => hL x (List.mem_cons_of_mem _ hx))
    have hy : ∀ v, YieldsB P ops (fun w => if b then C w else D w) o v a → ((fin s = false ∧ (∀ o, ops[last]? = some o → ∃ e ∈ o.after, Region.binds md e = true ∧ e.on = i) ∧ YieldsB P ops C o v a) ∨ YieldsB P ops D o v a) := fun v h => by
      cases b with
      | true => exact .inl ⟨hfs, hdep rfl, by simpa using h⟩
      | false => exact .inr (by simpa using h)
    by_cases hwt : Region.wanted o (yielded ops a.tmps) = true
    · rw [if_pos hwt] at h
      obtain ⟨v, hv, hrest⟩ := h
      exact anyW_first h0 (Region.noSelect_spec hsel) _ s listed a (Region.free_spec h0 hB.1.2) hr' (hy v (.inl ⟨hwt, hv⟩)) (ih' _ _ hB.2 hrest)
    · rw [if_neg hwt] at h
      exact anyW_first h0 (Region.noSelect_spec hsel) _ s listed a (Region.free_spec h0 hB.1.2) hr' (hy undef (.inr ⟨by simpa using hwt, rfl⟩)) (ih' _ _ hB.2 h)
def stageW (ops : Array Oper) (hs : List (Nat × Bool)) (ts : List Nat) (last : Nat) : Bool := stageP ops (hs.map (·.1)) ts && hs.all (fun x => !x.2 || lastB .any ops last x.1)
theorem region_stageW {id : Nat} {a : Act} {w : World} {l : Array Oper} (hs : List (Nat × Bool)) (ts : List Nat) (last : Nat) (fin : S → Bool) (s : S) (hfs : fin s = false) (hm : P.follows .mixedOrders = true) (hB : stageW l hs ts last = true) (hC : ∀ s w, fin s = false → Cl s w → C w) (hD : ∀ s w, Cl s w → D w) (hst : ∀ s w w', Cl s w → Below w.heap.size w w' → Cl s w') (h0 : Cl s w.drew)
    (h : headW P l C D (tailW P l Cl Q fin last ts s) hs a) : (Code.region id l true).wp P Q a w := by
  simp only [stageW, stageP, Bool.and_eq_true, decide_eq_true_eq, List.all_eq_true] at hB
  obtain ⟨⟨⟨hsel, hn⟩, hlex⟩, hla⟩ := hB
  refine wp_region_any hm ?_
  have H := anyW_head (P := P) (C := C) (D := D) (Cl := Cl) (Q := Q) (md := .any) (ops := l) (s := s) (fin := fin) (last := last) hsel hfs ts hs (Array.replicate l.size false) a (fun x hx hb => by have := hla x hx; simpa [hb] using this) hlex h
  rw [List.length_map] at hn
  rw [hn] at H
  exact wpAny_of_anyW hC hD hst _ s _ a w.drew h0 H
end
end Go.Proofs.Ytpfmcobkfofbjaa
