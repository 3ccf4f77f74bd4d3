/- App6, with StageW, App5 ahead of it. -/
import Derived.Test.YtpfmcobkfofbjaaGreatStageF
import Derived.Test.YtpfmcobkfofbjaaGreatApp4
namespace Go.Proofs.YtpfmcobkfofbjaaGreat
open Go Go.RowKit
/-- What an operation comes to: a value, and a world. -/
def Oper.givesAt (P : Program) (a : Act) (o : Oper) (R : Value → World → Prop) (w : World) : Prop :=
  match (execOp a.eval o).run P w with
  | .ok (.value u) w' => R u w'
  | .ok .skip w' => R undef w'
  | .ok (.enter g args) w' => Calls P g args w' fun e w'' => ∃ u, e = .returned u ∧ R u w''
  | _ => False
section
variable {P : Program} {ops : Array Oper} {md : Region.Mode} {C D : World → Prop} {S : Type} {Cl : S → World → Prop} {Q : Exit → Act → World → Prop} {fin : S → Bool} {last : Nat}
theorem gives_value {a : Act} {o : Oper} {R : Value → World → Prop} {w w' : World} {u : Value} (h : (execOp a.eval o).run P w = .ok (.value u) w') (hR : R u w') : Oper.givesAt P a o R w := by
  unfold Oper.givesAt; rw [h]; exact hR
theorem gives_skip {a : Act} {o : Oper} {R : Value → World → Prop} {w w' : World} (h : (execOp a.eval o).run P w = .ok .skip w') (hR : R undef w') : Oper.givesAt P a o R w := by
  unfold Oper.givesAt; rw [h]; exact hR
theorem gives_call {a : Act} {o : Oper} {R : Value → World → Prop} {w w' : World} {g : FuncId} {args : Array Value} (hR : Calls P g args w' fun e w'' => ∃ u, e = .returned u ∧ R u w'') (h : (execOp a.eval o).run P w = .ok (.enter g args) w') : Oper.givesAt P a o R w := by
  unfold Oper.givesAt; rw [h]; exact hR
theorem Oper.givesAt.mono {a : Act} {o : Oper} {R R' : Value → World → Prop} {w : World} (h : Oper.givesAt P a o R w) (hR : ∀ u w', R u w' → R' u w') : Oper.givesAt P a o R' w := by
  unfold Oper.givesAt at *
  generalize (execOp a.eval o).run P w = r at *
  cases r with
  | halt x w' => exact h
  | ok n w' =>
    cases n
    case value u => exact hR _ _ h
    case skip => exact hR _ _ h
    case enter g args => exact Calls.mono h fun e w'' ⟨u, he, hr⟩ => ⟨u, he, hR _ _ hr⟩
    all_goals exact h
def GivesB (P : Program) (ops : Array Oper) (Cl : S → World → Prop) (o : Oper) (s : S) (a : Act) (K : S → Act → Prop) : Prop :=
  Region.wanted o (yielded ops a.tmps) = true ∧ ∀ w, Cl s w → Oper.givesAt P a o (fun u w' => ∃ s', Cl s' w' ∧ K s' (a.put o.dst u)) w
def anyW (P : Program) (md : Region.Mode) (ops : Array Oper) (C D : World → Prop) (Cl : S → World → Prop) (Q : Exit → Act → World → Prop) (fin : S → Bool) (last : Nat) : Nat → S → Array Bool → Act → Prop
  | 0, s, listed, a => Region.ready md ops listed = [] ∧ ∀ w, Cl s w → Q .normal a w
  | f + 1, s, listed, a => (Region.ready md ops listed = [] → ∀ w, Cl s w → Q .normal a w) ∧
    ∀ i ∈ Region.ready md ops listed, ∃ o, ops[i]? = some o ∧
      ((∃ v, ((fin s = false ∧ YieldsB P ops C o v a) ∨ YieldsB P ops D o v a) ∧ anyW P md ops C D Cl Q fin last f s (listed.setIfInBounds i true) (a.put o.dst v)) ∨
        GivesB P ops Cl o s a (fun s' a' => (fin s = false → fin s' = true → i = last) ∧ anyW P md ops C D Cl Q fin last f s' (listed.setIfInBounds i true) a'))
theorem wpAny_of_anyW (hC : ∀ s w, fin s = false → Cl s w → C w) (hD : ∀ s w, Cl s w → D w) (hst : ∀ s w w', Cl s w → Below w.heap.size w w' → Cl s w') (f : Nat) :
    ∀ (s : S) (listed : Array Bool) (a : Act) (w : World), Cl s w → anyW P md ops C D Cl Q fin last f s listed a → wpAny P md ops Q f listed a w := by
  induction f with
  | zero => intro s listed a w hw h; exact ⟨h.1, h.2 w hw⟩
  | succ f ih =>
    intro s listed a w hw h
    refine ⟨fun h0 => h.1 h0 w hw, fun i hi => ?_⟩
    obtain ⟨o, ho, h2⟩ := h.2 i hi
    unfold wpOp
    simp only [ho]
    rcases h2 with ⟨v, hy, hk⟩ | ⟨hwt, hn⟩
    · have hy' : (Region.wanted o (yielded ops a.tmps) = true ∧ o.quietAt P a (fun w' => Stays w w') w v) ∨ (Region.wanted o (yielded ops a.tmps) = false ∧ v = undef) := by
        rcases hy with ⟨hf, h | h⟩ | h | h
        · exact .inl ⟨h.1, h.2 w (hC s w hf hw)⟩
        · exact .inr h
        · exact .inl ⟨h.1, h.2 w (hD s w hw)⟩
        · exact .inr h
      rcases hy' with ⟨hwt, h3⟩ | ⟨hwt, rfl⟩
      · rw [if_pos hwt]
        refine .inl ?_
        unfold Oper.quietAt at h3
        unfold Oper.wp
        generalize (execOp a.eval o).run P w = r at *
        cases r with
        | halt x w' => simp only [Oper.quietUpon] at h3
        | ok n w' =>
          cases n <;> simp only [Oper.quietUpon] at h3 <;> simp only [Oper.upon]
          case value u => obtain ⟨e1, e2⟩ := h3; rw [e1, e2]; exact ih s _ _ w hw hk
          case skip => obtain ⟨e1, e2⟩ := h3; rw [e1, ← e2]; exact ih s _ _ w hw hk
          case enter g args =>
            obtain ⟨e1, hc⟩ := h3
            rw [e1]
            exact hc.mono fun e w'' ⟨he, hb⟩ => by subst he; exact ih s _ _ w'' (hst s w w'' hw hb) hk
      · rw [if_neg (by rw [hwt]; decide)]; exact ih s _ _ w hw hk
    · rw [if_pos hwt]
      refine .inl ?_
      have h3 := hn w hw
      unfold Oper.givesAt at h3
      unfold Oper.wp
      generalize (execOp a.eval o).run P w = r at *
      cases r with
      | halt x w' => exact h3.elim
      | ok n w' =>
        cases n <;> simp only at h3 <;> simp only [Oper.upon]
        case value u => obtain ⟨s', hw', _, hk⟩ := h3; exact ih s' _ _ w' hw' hk
        case skip => obtain ⟨s', hw', _, hk⟩ := h3; exact ih s' _ _ w' hw' hk
        case enter g args => exact Calls.mono h3 fun e w'' ⟨u, he, s', hw', _, hk⟩ => by subst he; exact ih s' _ _ w'' hw' hk
theorem anyW_first {i : Nat} {oi : Oper} {v : Value} (hi : ops[i]? = some oi) (hsel : ∀ (j : Nat) (o : Oper) cs b, ops[j]? = some o → o.op ≠ .select cs b) (f : Nat) :
    ∀ (s : S) (listed : Array Bool) (a : Act),
      (∀ j oj, ops[j]? = some oj → j ≠ i → listed.getD j true = false → (∀ e ∈ oj.after, Region.binds md e = true → e.on ≠ i) → oi.apart ops oj = true) →
      i ∈ Region.ready md ops listed → ((fin s = false ∧ (∀ o, ops[last]? = some o → ∃ e ∈ o.after, Region.binds md e = true ∧ e.on = i) ∧ YieldsB P ops C oi v a) ∨ YieldsB P ops D oi v a) → anyW P md ops C D Cl Q fin last f s (listed.setIfInBounds i true) (a.put oi.dst v) → anyW P md ops C D Cl Q fin last (f + 1) s listed a := by
  induction f with
  | zero =>
    intro s listed a _ hr hy H
    refine ⟨fun h => absurd hr (by rw [h]; simp), fun j hj => ?_⟩
    by_cases hji : j = i
    · subst hji; exact ⟨oi, hi, .inl ⟨v, hy.imp (fun h => ⟨h.1, h.2.2⟩) id, H⟩⟩
    · have := ready_mono hj hji
      rw [H.1] at this; cases this
  | succ f ih =>
    intro s listed a hfree hr hy H
    refine ⟨fun h => absurd hr (by rw [h]; simp), fun j hj => ?_⟩
    by_cases hji : j = i
    · subst hji; exact ⟨oi, hi, .inl ⟨v, hy.imp (fun h => ⟨h.1, h.2.2⟩) id, H⟩⟩
    obtain ⟨hjun, oj, hoj, hall⟩ := mem_ready.1 hj
    have hnot : ∀ e ∈ oj.after, Region.binds md e = true → e.on ≠ i := fun e he hb heq => by
      have h1 := hall e he hb
      rw [heq, getD_both (mem_ready.1 hr).1] at h1
      cases h1
    have hap := hfree j oj hoj hji hjun hnot
    obtain ⟨p1, p2, p3⟩ := Oper.apart_spec hap
    have keep : ∀ (E : World → Prop) u, YieldsB P ops E oi v a → YieldsB P ops E oi v (a.put oj.dst u) := fun E u h => h.same (execOp_put oi (fun cs b => hsel i oi cs b hi) a oj.dst u p3) (wanted_put oi a oj.dst u p3)
    have hfree' : ∀ k ok, ops[k]? = some ok → k ≠ i → (listed.setIfInBounds j true).getD k true = false → (∀ e ∈ ok.after, Region.binds md e = true → e.on ≠ i) → oi.apart ops ok = true := fun k ok hk hki hun hno => by
      refine hfree k ok hk hki ?_ hno
      by_cases hjk : j = k
      · subst hjk; exact hjun
      · rwa [getD_set_ne true hjk] at hun
    have go : ∀ s' u, ((fin s' = false ∧ (∀ o, ops[last]? = some o → ∃ e ∈ o.after, Region.binds md e = true ∧ e.on = i) ∧ YieldsB P ops C oi v a) ∨ YieldsB P ops D oi v a) → anyW P md ops C D Cl Q fin last f s' ((listed.setIfInBounds i true).setIfInBounds j true) ((a.put oi.dst v).put oj.dst u) → anyW P md ops C D Cl Q fin last (f + 1) s' (listed.setIfInBounds j true) (a.put oj.dst u) := fun s' u hy' h =>
      ih s' _ _ hfree' (ready_mono hr (Ne.symm hji)) (hy'.imp (fun h => ⟨h.1, h.2.1, keep _ u h.2.2⟩) (keep _ u)) (by rw [Array.setIfInBounds_comm _ _ hji, ← Act.put_comm a v u p2]; exact h)
    have ex := execOp_put oj (fun cs b => hsel j oj cs b hoj) a oi.dst v p1
    have ew := wanted_put oj a oi.dst v p1
    obtain ⟨o, ho, h2⟩ := H.2 j (ready_mono hj hji)
    obtain rfl : oj = o := Option.some.inj (hoj.symm.trans ho)
    refine ⟨oj, hoj, ?_⟩
    rcases h2 with ⟨u, hyj, hk⟩ | ⟨hwt, hn⟩
    · exact .inl ⟨u, hyj.imp (fun h => ⟨h.1, h.2.same ex.symm ew.symm⟩) (fun h => h.same ex.symm ew.symm), go s u hy hk⟩
    · refine .inr ⟨by rw [← ew]; exact hwt, fun w hw => ?_⟩
      have h3 := hn w hw
      have h4 : Oper.givesAt P a oj (fun u w' => ∃ s', Cl s' w' ∧ (fin s = false → fin s' = true → j = last) ∧ anyW P md ops C D Cl Q fin last f s' ((listed.setIfInBounds i true).setIfInBounds j true) ((a.put oi.dst v).put oj.dst u)) w := by
        unfold Oper.givesAt at *
        rw [← ex]; exact h3
      refine h4.mono fun u w' ⟨s', hw', hl', hk⟩ => ⟨s', hw', hl', go s' u ?_ hk⟩
      rcases hy with ⟨hf, hdep, hY⟩ | hY
      · refine .inl ⟨?_, hdep, hY⟩
        cases q : fin s' with
        | false => rfl
        | true =>
          have hjl := hl' hf q
          subst hjl
          obtain ⟨e, he, hb, ho'⟩ := hdep oj hoj
          exact absurd ho' (hnot e he hb)
      · exact .inr hY
/-- The quiet ones, at their places; those marked with true only ahead of the last store. -/
def headW (P : Program) (ops : Array Oper) (C D : World → Prop) (K : Act → Prop) : List (Nat × Bool) → Act → Prop
  | [], a => K a
  | (i, b) :: is, a => ∃ o, ops[i]? = some o ∧ if Region.wanted o (yielded ops a.tmps) then ∃ v, (∀ w, (if b then C w else D w) → o.quietAt P a (fun w' => Stays w w') w v) ∧ headW P ops C D K is (a.put o.dst v) else headW P ops C D K is (a.put o.dst undef)
def tailW (P : Program) (ops : Array Oper) (Cl : S → World → Prop) (Q : Exit → Act → World → Prop) (fin : S → Bool) (last : Nat) : List Nat → S → Act → Prop
  | [], s, a => ∀ w, Cl s w → Q .normal a w
  | i :: is, s, a => ∃ o, ops[i]? = some o ∧ GivesB P ops Cl o s a (fun s' a' => (fin s = false → fin s' = true → i = last) ∧ tailW P ops Cl Q fin last is s' a')
theorem headW_step {K : Act → Prop} {a : Act} {o : Oper} {i : Nat} {b : Bool} {is : List (Nat × Bool)} (ho : ops[i]? = some o)
    (h : ∀ K' : Act → Prop, (∀ a, headW P ops C D K is a → K' a) → if Region.wanted o (yielded ops a.tmps) then ∃ v, (∀ w, (if b then C w else D w) → o.quietAt P a (fun w' => Stays w w') w v) ∧ K' (a.put o.dst v) else K' (a.put o.dst undef)) : headW P ops C D K ((i, b) :: is) a :=
  ⟨o, ho, h _ (fun _ h => h)⟩
theorem headW_nil {K : Act → Prop} {a : Act} (h : K a) : headW P ops C D K [] a := h
theorem tailW_nil {s : S} {a : Act} (h : ∀ w, Cl s w → Q .normal a w) : tailW P ops Cl Q fin last [] s a := h
theorem tailW_step {a : Act} {o : Oper} {i : Nat} {is : List Nat} {s : S} (ho : ops[i]? = some o) (hw : Region.wanted o (yielded ops a.tmps) = true)
    (h : ∀ w, Cl s w → Oper.givesAt P a o (fun u w' => ∃ s', Cl s' w' ∧ (fin s = false → fin s' = true → i = last) ∧ tailW P ops Cl Q fin last is s' (a.put o.dst u)) w) : tailW P ops Cl Q fin last (i :: is) s a :=
  ⟨o, ho, hw, h⟩
theorem anyW_tail (ts : List Nat) : ∀ (s : S) (listed : Array Bool) (a : Act), seqP md ops ts listed = true → tailW P ops Cl Q fin last ts s a → anyW P md ops C D Cl Q fin last ts.length s listed a := by
  induction ts with
  | nil => intro s listed a hB h; exact ⟨by simpa [seqP] using hB, h⟩
  | cons i ts ih =>
    intro s listed a hB h
    obtain ⟨o, h0, h⟩ := h
    simp only [seqP, Bool.and_eq_true, decide_eq_true_eq] at hB
    refine ⟨fun h1 => (by rw [hB.1] at h1; cases h1), fun j hj => ?_⟩
    rw [hB.1] at hj
    obtain rfl : j = i := by simpa using hj
    exact ⟨o, h0, .inr ⟨h.1, fun w hw => (h.2 w hw).mono fun u w' ⟨s', hw', hl, hk⟩ => ⟨s', hw', hl, ih s' _ _ hB.2 hk⟩⟩⟩
theorem anyW_head {s : S} (hsel : Region.noSelect ops = true) (hfs : fin s = false) (ts : List Nat) (hs : List (Nat × Bool)) : ∀ (listed : Array Bool) (a : Act), (∀ x ∈ hs, x.2 = true → lastB md ops last x.1 = true) → lexP md ops (hs.map (·.1)) ts listed = true → headW P ops C D (tailW P ops Cl Q fin last ts s) hs a → anyW P md ops C D Cl Q fin last (hs.length + ts.length) s listed a := by
  induction hs with
  | nil =>
    intro listed a _ hB h
    rw [List.length_nil, Nat.zero_add]
    exact anyW_tail ts s listed a (by simpa [lexP] using hB) h
  | cons x hs ih =>
    obtain ⟨i, b⟩ := x
    intro listed a hL hB h
    obtain ⟨o, h0, h⟩ := h
    simp only [List.map_cons, lexP, Bool.and_eq_true] at hB
    have hr' : i ∈ Region.ready md ops listed := by simpa using hB.1.1
    have e : ((i, b) :: hs).length + ts.length = (hs.length + ts.length) + 1 := by simp; omega
    have hdep : b = true → ∀ o, ops[last]? = some o → ∃ e ∈ o.after, Region.binds md e = true ∧ e.on = i := fun hb o ho => by
      have h9 := hL (i, b) (List.mem_cons_self ..) hb
      simp only [lastB, ho, Array.any_eq_true', Bool.and_eq_true, beq_iff_eq] at h9
      exact h9
    rw [e]
    have ih' := fun l' a' => ih l' a' (fun x hx => hL x (List.mem_cons_of_mem _ hx))
    have hy : ∀ v, YieldsB P ops (fun w => if b then C w else D w) o v a → ((fin s = false ∧ (∀ o, ops[last]? = some o → ∃ e ∈ o.after, Region.binds md e = true ∧ e.on = i) ∧ YieldsB P ops C o v a) ∨ YieldsB P ops D o v a) := fun v h => by
      cases b with
      | true => exact .inl ⟨hfs, hdep rfl, by simpa using h⟩
      | false => exact .inr (by simpa using h)
    by_cases hwt : Region.wanted o (yielded ops a.tmps) = true
    · rw [if_pos hwt] at h
      obtain ⟨v, hv, hrest⟩ := h
      exact anyW_first h0 (Region.noSelect_spec hsel) _ s listed a (Region.free_spec h0 hB.1.2) hr' (hy v (.inl ⟨hwt, hv⟩)) (ih' _ _ hB.2 hrest)
    · rw [if_neg hwt] at h
      exact anyW_first h0 (Region.noSelect_spec hsel) _ s listed a (Region.free_spec h0 hB.1.2) hr' (hy undef (.inr ⟨by simpa using hwt, rfl⟩)) (ih' _ _ hB.2 h)
def stageW (ops : Array Oper) (hs : List (Nat × Bool)) (ts : List Nat) (last : Nat) : Bool := stageP ops (hs.map (·.1)) ts && hs.all (fun x => !x.2 || lastB .any ops last x.1)
theorem region_stageW {id : Nat} {a : Act} {w : World} {l : Array Oper} (hs : List (Nat × Bool)) (ts : List Nat) (last : Nat) (fin : S → Bool) (s : S) (hfs : fin s = false) (hm : P.follows .mixedOrders = true) (hB : stageW l hs ts last = true) (hC : ∀ s w, fin s = false → Cl s w → C w) (hD : ∀ s w, Cl s w → D w) (hst : ∀ s w w', Cl s w → Below w.heap.size w w' → Cl s w') (h0 : Cl s w.drew)
    (h : headW P l C D (tailW P l Cl Q fin last ts s) hs a) : (Code.region id l true).wp P Q a w := by
  simp only [stageW, stageP, Bool.and_eq_true, decide_eq_true_eq, List.all_eq_true] at hB
  obtain ⟨⟨⟨hsel, hn⟩, hlex⟩, hla⟩ := hB
  refine wp_region_any hm ?_
  have H := anyW_head (P := P) (C := C) (D := D) (Cl := Cl) (Q := Q) (md := .any) (ops := l) (s := s) (fin := fin) (last := last) hsel hfs ts hs (Array.replicate l.size false) a (fun x hx hb => by have := hla x hx; simpa [hb] using this) hlex h
  rw [List.length_map] at hn
  rw [hn] at H
  exact wpAny_of_anyW hC hD hst _ s _ a w.drew h0 H
end
end Go.Proofs.YtpfmcobkfofbjaaGreat
namespace Go.Proofs.YtpfmcobkfofbjaaGreat
open Go Go.RowKit
section
variable {P : Program} {ops : Array Oper} {C : World → Prop} {Q : Exit → Act → World → Prop}
variable {K : World → Prop} {T j : Nat} {tm : TypeId} {cs : List Value}
theorem app4Cl_CK {W : World} {e : TypeId} {size n m : Nat} {v : Value} {xs news : List Value} : ∀ s w, fin4 s = false → app4Cl K T tm cs j W e size v n m xs news s w → (∃ z : Tail, w = more W z.X z.d) ∧ w.heap[T]? = some (.cells ⟨cs⟩ tm (0, 0)) ∧ K w
  | (0, _, _), _, _, h => ⟨h.1, h.2.2.1, h.2.2.2⟩
  | (1, _, _), _, _, h => ⟨h.1, h.2.2.1, h.2.2.2.1⟩
  | (2, _, _), _, _, h => ⟨h.1, h.2.2.1, h.2.2.2⟩
  | (_ + 3, _, _), _, hf, _ => by simp [fin4] at hf
theorem region_app4K {id : Nat} {W : World} {X0 : Array Obj} {d0 : Nat} {a : Act} {l : Array Oper} (hs ts : List Nat) (last : Nat) (tm : TypeId) (cs : List Value) (j : Nat) (e : TypeId) (size : Nat) (v : Value) (n m : Nat) (xs news : List Value) (hK : Carried K e tm T) (hm : P.follows .mixedOrders = true) (hB : stageF l hs ts last = true) (hown : (more W X0 d0).ownsRow W.heap.size e size v n xs) (hT : (more W X0 d0).heap[T]? = some (.cells ⟨cs⟩ tm (0, 0))) (hka : K (more W X0 d0))
    (h : headP P l (fun w => (∃ z : Tail, w = more W z.X z.d) ∧ w.heap[T]? = some (.cells ⟨cs⟩ tm (0, 0)) ∧ K w) (tailF P l (app4Cl K T tm cs j W e size v n m xs news) Q fin4 last ts (0, 0, undef)) hs a) : (Code.region id l true).wp P Q a (more W X0 d0) :=
  region_stageF (S := Nat × Nat × Value) (Cl := app4Cl K T tm cs j W e size v n m xs news) hs ts last fin4 (0, 0, undef) rfl hm hB app4Cl_CK (app4Cl_stays hK) ⟨⟨⟨X0, d0 + 1⟩, rfl⟩, hown, hT, hK.below _ _ hka (Below.drew (Below.refl _ _))⟩ h
end
end Go.Proofs.YtpfmcobkfofbjaaGreat
namespace Go.Proofs.YtpfmcobkfofbjaaGreat
open Go Go.RowKit
section
variable {P : Program} {ops : Array Oper} {Q : Exit → Act → World → Prop}
variable {K : World → Prop} {R : Value → World → Prop} {T j : Nat} {tm : TypeId} {cs : List Value}
def app6Cl (K : World → Prop) (R : Value → World → Prop) (T : Nat) (tm : TypeId) (cs : List Value) (j : Nat) (W : World) (e : TypeId) (v : Value) (n : Nat) (xs : List Value) : Nat × Value × Nat × Value → World → Prop
  | (0, _, _, _), w => (∃ z : Tail, w = more W z.X z.d) ∧ w.ownsRow W.heap.size e 1 v n xs ∧ w.heap[T]? = some (.cells ⟨cs⟩ tm (0, 0)) ∧ K w
  | (1, u, _, _), w => (∃ z : Tail, w = more W z.X z.d) ∧ w.ownsRow W.heap.size e 1 v n xs ∧ w.heap[T]? = some (.cells ⟨cs⟩ tm (0, 0)) ∧ K w ∧ R u w
  | (2, u, b, _), w => (∃ z : Tail, w = more W z.X z.d) ∧ w.ownsRow W.heap.size e 1 v n xs ∧ w.heap[T]? = some (.cells ⟨cs⟩ tm (0, 0)) ∧ K w ∧ R u w ∧ w.heap[b]? = some (.cells ⟨[u]⟩ e (0, 0))
  | (3, u, _, v'), w => (∃ z : Tail, w = more W z.X z.d) ∧ w.ownsRow W.heap.size e 1 v' (n + 1) (xs ++ [u]) ∧ w.heap[T]? = some (.cells ⟨cs⟩ tm (0, 0)) ∧ K w ∧ R u w
  | (_ + 4, u, _, v'), w => (∃ z : Tail, w = more W z.X z.d) ∧ w.ownsRow W.heap.size e 1 v' (n + 1) (xs ++ [u]) ∧ w.heap[T]? = some (.cells ⟨cs.set j v'⟩ tm (0, 0)) ∧ K w ∧ R u w
def fin6 (s : Nat × Value × Nat × Value) : Bool := decide (4 ≤ s.1)
theorem app6Cl_C {W : World} {e : TypeId} {n : Nat} {v : Value} {xs : List Value} : ∀ s w, fin6 s = false → app6Cl K R T tm cs j W e v n xs s w → (∃ z : Tail, w = more W z.X z.d) ∧ w.heap[T]? = some (.cells ⟨cs⟩ tm (0, 0)) ∧ K w
  | (0, _, _, _), _, _, h => ⟨h.1, h.2.2.1, h.2.2.2⟩
  | (1, _, _, _), _, _, h => ⟨h.1, h.2.2.1, h.2.2.2.1⟩
  | (2, _, _, _), _, _, h => ⟨h.1, h.2.2.1, h.2.2.2.1⟩
  | (3, _, _, _), _, _, h => ⟨h.1, h.2.2.1, h.2.2.2.1⟩
  | (_ + 4, _, _, _), _, hf, _ => by simp [fin6] at hf
theorem app6Cl_stays {W : World} {e : TypeId} {n : Nat} {v : Value} {xs : List Value} (hK : Carried K e tm T) (hR : ∀ u, Carried (R u) e tm T) : ∀ s w w', app6Cl K R T tm cs j W e v n xs s w → Below w.heap.size w w' → app6Cl K R T tm cs j W e v n xs s w'
  | (0, _, _, _), _, _, h, hb => ⟨ext_trans h.1 hb, own_kept h.2.1 hb, heap_keep h.2.2.1 hb, hK.below _ _ h.2.2.2 hb⟩
  | (1, _, _, _), _, _, h, hb => ⟨ext_trans h.1 hb, own_kept h.2.1 hb, heap_keep h.2.2.1 hb, hK.below _ _ h.2.2.2.1 hb, (hR _).below _ _ h.2.2.2.2 hb⟩
  | (2, _, _, _), _, _, h, hb => ⟨ext_trans h.1 hb, own_kept h.2.1 hb, heap_keep h.2.2.1 hb, hK.below _ _ h.2.2.2.1 hb, (hR _).below _ _ h.2.2.2.2.1 hb, heap_keep h.2.2.2.2.2 hb⟩
  | (3, _, _, _), _, _, h, hb => ⟨ext_trans h.1 hb, own_kept h.2.1 hb, heap_keep h.2.2.1 hb, hK.below _ _ h.2.2.2.1 hb, (hR _).below _ _ h.2.2.2.2 hb⟩
  | (_ + 4, _, _, _), _, _, h, hb => ⟨ext_trans h.1 hb, own_kept h.2.1 hb, heap_keep h.2.2.1 hb, hK.below _ _ h.2.2.2.1 hb, (hR _).below _ _ h.2.2.2.2 hb⟩
theorem tail_app6 {W : World} {e t : TypeId} {bytes n : Nat} {i : TypeInfo} {z v : Value} {xs : List Value} {oA oB oP oF oS : Oper} {iA iB iP iF iS : Nat} {a : Act} {u : Value} (hK : Carried K e tm T) (hR : ∀ u, Carried (R u) e tm T) (hone : ∀ u w, R u w → ∃ ua un uc, u = .slice ua un uc) (hT : W.heap.size ≤ T) (hte : tm ≠ e)
    (hiA : ops[iA]? = some oA) (hiB : ops[iB]? = some oB) (hiP : ops[iP]? = some oP) (hiF : ops[iF]? = some oF) (hiS : ops[iS]? = some oS) (s x : Operand)
    (hAw : Region.wanted oA (yielded ops a.tmps) = true)
    (hA : ∀ w, (∃ z : Tail, w = more W z.X z.d) → w.heap[T]? = some (.cells ⟨cs⟩ tm (0, 0)) → K w → Oper.givesAt P a oA (fun u w' => Below w.heap.size w w' ∧ R u w') w)
    (hBw : ∀ ua un uc, Region.wanted oB (yielded ops (a.put oA.dst (.slice ua un uc)).tmps) = true)
    (hB : ∀ ua un uc w, (execOp (a.put oA.dst (.slice ua un uc)).eval oB).run P w = .ok (.value (.slice (some ⟨w.heap.size, 0, none⟩) 1 1)) (w.alloc (.cells ⟨[.slice ua un uc]⟩ e)))
    (hPw : ∀ ua un uc b, Region.wanted oP (yielded ops ((a.put oA.dst (.slice ua un uc)).put oB.dst (.slice (some ⟨b, 0, none⟩) 1 1)).tmps) = true)
    (ho : oP.op = .call { callee := .builtin .append, args := #[s, x], argTypes := #[t, t] })
    (ht : P.underlying t = some (.slice e)) (hi : P.info? e = some i) (hz : i.zero = some z) (hsize : i.size = 1) (hby : i.bytes = bytes) (hzs : z.cells.size = 1)
    (hs : ∀ ua un uc b, ((a.put oA.dst (.slice ua un uc)).put oB.dst (.slice (some ⟨b, 0, none⟩) 1 1)).eval s = v) (hx : ∀ ua un uc b, ((a.put oA.dst (.slice ua un uc)).put oB.dst (.slice (some ⟨b, 0, none⟩) 1 1)).eval x = .slice (some ⟨b, 0, none⟩) 1 1)
    (h63 : n + 1 ≤ maxLen) (hbytes : (n + 1) * bytes ≤ 140737488355328)
    (hFw : ∀ ua un uc b v', Region.wanted oF (yielded ops (((a.put oA.dst (.slice ua un uc)).put oB.dst (.slice (some ⟨b, 0, none⟩) 1 1)).put oP.dst v').tmps) = true)
    (hF : ∀ ua un uc b v' w, (execOp (((a.put oA.dst (.slice ua un uc)).put oB.dst (.slice (some ⟨b, 0, none⟩) 1 1)).put oP.dst v').eval oF).run P w = .ok (.value u) w)
    (hSw : ∀ ua un uc b v', Region.wanted oS (yielded ops ((((a.put oA.dst (.slice ua un uc)).put oB.dst (.slice (some ⟨b, 0, none⟩) 1 1)).put oP.dst v').put oF.dst u).tmps) = true)
    (hS : ∀ ua un uc b va vc w, T < w.heap.size → (execOp ((((a.put oA.dst (.slice ua un uc)).put oB.dst (.slice (some ⟨b, 0, none⟩) 1 1)).put oP.dst (.slice va (n + 1) vc)).put oF.dst u).eval oS).run P (putB w T cs tm) = .ok .skip (putB w T (cs.set j (.slice va (n + 1) vc)) tm))
    (hrest : ∀ ua un uc b v' X d, (more W X d).ownsRow W.heap.size e 1 v' (n + 1) (xs ++ [.slice ua un uc]) → (more W X d).heap[T]? = some (.cells ⟨cs.set j v'⟩ tm (0, 0)) → K (more W X d) → R (.slice ua un uc) (more W X d) → Q .normal (((((a.put oA.dst (.slice ua un uc)).put oB.dst (.slice (some ⟨b, 0, none⟩) 1 1)).put oP.dst v').put oF.dst u).put oS.dst undef) (more W X d)) :
    tailW P ops (app6Cl K R T tm cs j W e v n xs) Q fin6 iS [iA, iB, iP, iF, iS] (0, undef, 0, undef) a := by
  refine tailW_step hiA hAw fun w hw => ?_
  obtain ⟨⟨y, rfl⟩, hown, hT0, hka⟩ := hw
  refine (hA _ ⟨y, rfl⟩ hT0 hka).mono fun uu w1 ⟨hb1, hr1⟩ => ?_
  obtain ⟨ua, un, uc, rfl⟩ := hone uu w1 hr1
  obtain ⟨z1, rfl⟩ := ext_trans ⟨y, rfl⟩ hb1
  refine ⟨(1, .slice ua un uc, 0, undef), ⟨⟨z1, rfl⟩, own_kept hown hb1, heap_keep hT0 hb1, hK.below _ _ hka hb1, hr1⟩, (fun _ q => by simp [fin6] at q), ?_⟩
  clear hown hT0 hka hb1 hr1
  refine tailW_step hiB (hBw _ _ _) fun w hw => ?_
  obtain ⟨⟨y, rfl⟩, hown, hT0, hka, hru⟩ := hw
  have hba := Below.alloc (Below.refl (more W y.X y.d).heap.size (more W y.X y.d)) (Nat.le_refl _) (.cells ⟨[.slice ua un uc]⟩ e)
  refine gives_value (hB ua un uc _) ?_
  generalize hbb : (more W y.X y.d).heap.size = b at *
  refine ⟨(2, .slice ua un uc, b, undef), ⟨⟨⟨y.X.push (.cells ⟨[.slice ua un uc]⟩ e), y.d⟩, more_alloc _ _ _ _⟩, hown.alloc _, heap_keep hT0 (by rw [hbb]; exact hba), hK.below _ _ hka (by rw [hbb]; exact hba), (hR _).below _ _ hru (by rw [hbb]; exact hba), by rw [← hbb]; exact heap_alloc_new _ _⟩, (fun _ q => by simp [fin6] at q), ?_⟩
  clear hown hT0 hka hru hba
  refine tailW_step hiP (hPw _ _ _ _) fun w hw => ?_
  obtain ⟨⟨y', rfl⟩, hown', hT1, hka', hru', hh⟩ := hw
  obtain ⟨v', w2, hr, h2, h3, _, h4⟩ := run_append_own_at (P := P) (more W y'.X y'.d) W.heap.size t oP.type e i z 1 bytes ht hi hz hsize hby hzs (by decide) v n xs hown' ⟨b, 0, none⟩ 1 1 [.slice ua un uc] rfl
    (fun j u hu => by
      rw [show (⟨b, 0, none⟩ : Addr).add j = ⟨b, j, none⟩ by (simp [Addr.add]; try omega), cell_of_row _ _ j _ _ (0, 0) hh]
      simpa using hu) (fun u hu => by obtain rfl : u = .slice ua un uc := by simpa using hu
                                      rfl) h63 hbytes (by simp)
  have hr2 : (execOp ((a.put oA.dst (.slice ua un uc)).put oB.dst (.slice (some ⟨b, 0, none⟩) 1 1)).eval oP).run P (more W y'.X y'.d) = .ok (.value v') w2 := by
    unfold execOp
    simp only [ho, resolve, invoke, builtin, Sem.run_bind, Sem.run_pure, Result.andThen_ok, List.map_toArray, List.map_cons, List.map_nil, hs, hx, hr]
  have hT2 : w2.heap[T]? = some (.cells ⟨cs⟩ tm (0, 0)) := by
    rw [h3.block T (Array.getElem?_eq_some_iff.1 hT1).1 (fun q => hte (own_type hown' q.symm hT1))]
    exact hT1
  obtain ⟨Y, k, e2⟩ := Below.ext (Below.grown (show Below W.heap.size W (more W y'.X y'.d) from Below.more (Below.refl _ _) (Nat.le_refl _) _ _) h3 (by simp) (fun k hk => (hown'.lt k hk).1))
  refine gives_value hr2 ⟨(3, .slice ua un uc, b, v'), ⟨⟨⟨Y, k⟩, e2⟩, h2, hT2, hK.grown _ _ _ hka' (fun g c t hv hg => own_type hown' hv hg) (fun g hv => own_cells hown' hv) h3, (hR _).grown _ _ _ hru' (fun g c t hv hg => own_type hown' hv hg) (fun g hv => own_cells hown' hv) h3⟩, (fun _ q => by simp [fin6] at q), ?_⟩
  clear hr hr2 h2 h3 h4 hT2 e2 hown' hT1 hka' hru' hh
  refine tailW_step hiF (hFw _ _ _ _ _) fun w hw => gives_value (hF _ _ _ _ _ _) ⟨(3, .slice ua un uc, b, v'), hw, (fun _ q => by simp [fin6] at q), ?_⟩
  refine tailW_step hiS (hSw _ _ _ _ _) fun w hw => ?_
  obtain ⟨⟨y3, rfl⟩, hown3, hT3, hka3, hru3⟩ := hw
  have hlt := (Array.getElem?_eq_some_iff.1 hT3).1
  obtain ⟨va, vc, hvf⟩ := own_shape hown3
  subst hvf
  have h5 := hS ua un uc b va vc _ hlt
  rw [putB_self hT3] at h5
  have hch : Chg T (T + 1) (more W y3.X y3.d) (putB (more W y3.X y3.d) T (cs.set j (.slice va (n + 1) vc)) tm) := ⟨rfl, rfl, rfl, by simp [putB], fun k _ hk => heap_putB_other k (by omega)⟩
  have hbl : Below W.heap.size W (putB (more W y3.X y3.d) T (cs.set j (.slice va (n + 1) vc)) tm) := (show Below W.heap.size W (more W y3.X y3.d) from Below.more (Below.refl _ _) (Nat.le_refl _) _ _).trans (Below.putB hT)
  obtain ⟨Y4, k4, e4⟩ := Below.ext hbl
  have hown4 : (putB (more W y3.X y3.d) T (cs.set j (.slice va (n + 1) vc)) tm).ownsRow W.heap.size e 1 (.slice va (n + 1) vc) (n + 1) (xs ++ [.slice ua un uc]) := by
    refine ⟨hown3.1, hown3.2.imp id ?_⟩
    rintro ⟨g, cap, cur, hv, hb, hg, r⟩
    refine ⟨g, cap, cur, hv, hb, ?_, r⟩
    rw [heap_putB_other g (fun q => ?_)]
    · exact hg
    · subst q
      exact hte (own_type hown3 (by rw [hv]; rfl) hT3)
  refine gives_skip h5 ⟨(4, .slice ua un uc, b, .slice va (n + 1) vc), ⟨⟨⟨Y4, k4⟩, e4⟩, hown4, heap_putB hlt, hK.store _ _ hka3 ⟨_, hT3⟩ hch, (hR _).store _ _ hru3 ⟨_, hT3⟩ hch⟩, (fun _ _ => rfl), ?_⟩
  refine tailW_nil ?_
  rintro w5 ⟨⟨z5, rfl⟩, h6, h7, h8, h9⟩
  exact hrest _ _ _ _ _ _ _ h6 h7 h8 h9
theorem region_app6 {id : Nat} {W : World} {X0 : Array Obj} {d0 : Nat} {a : Act} {l : Array Oper} (hs : List (Nat × Bool)) (ts : List Nat) (last : Nat) (tm : TypeId) (cs : List Value) (j : Nat) (e : TypeId) (v : Value) (n : Nat) (xs : List Value) (hK : Carried K e tm T) (hR : ∀ u, Carried (R u) e tm T) (hm : P.follows .mixedOrders = true) (hB : stageW l hs ts last = true) (hown : (more W X0 d0).ownsRow W.heap.size e 1 v n xs) (hT : (more W X0 d0).heap[T]? = some (.cells ⟨cs⟩ tm (0, 0))) (hka : K (more W X0 d0))
    (h : headW P l (fun w => (∃ z : Tail, w = more W z.X z.d) ∧ w.heap[T]? = some (.cells ⟨cs⟩ tm (0, 0)) ∧ K w) (fun _ => True) (tailW P l (app6Cl K R T tm cs j W e v n xs) Q fin6 last ts (0, undef, 0, undef)) hs a) : (Code.region id l true).wp P Q a (more W X0 d0) :=
  region_stageW (S := Nat × Value × Nat × Value) (Cl := app6Cl K R T tm cs j W e v n xs) hs ts last fin6 (0, undef, 0, undef) rfl hm hB app6Cl_C (fun _ _ _ => trivial) (app6Cl_stays hK hR) ⟨⟨⟨X0, d0 + 1⟩, rfl⟩, hown, hT, hK.below _ _ hka (Below.drew (Below.refl _ _))⟩ h
end
end Go.Proofs.YtpfmcobkfofbjaaGreat
