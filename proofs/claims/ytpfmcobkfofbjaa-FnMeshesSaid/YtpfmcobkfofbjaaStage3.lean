/- Stage3, with PutO, Stage2 ahead of it. -/
import Derived.Test.YtpfmcobkfofbjaaMark
import Derived.Test.YtpfmcobkfofbjaaStageW
import Derived.Test.YtpfmcobkfofbjaaBox
namespace Go.Proofs.Ytpfmcobkfofbjaa
open Go Go.RowKit
section
variable {w : World} {g : Nat} {arr : List Value} {e : TypeId}
@[go_sem] theorem cell?_putB_other (n j : Nat) (h : n ≠ g) : (putB w g arr e).cell? ⟨n, j, none⟩ = w.cell? ⟨n, j, none⟩ := World.cell?_of_block (heap_putB_other n h)
@[go_sem] theorem frozen?_putB_other (n j : Nat) (h : n ≠ g) : (putB w g arr e).frozen? ⟨n, j, none⟩ = w.frozen? ⟨n, j, none⟩ := World.frozen?_of_block (heap_putB_other n h)
@[go_sem] theorem setCell_putB_other (n j : Nat) (u : Value) (h : n ≠ g) : (putB w g arr e).setCell ⟨n, j, none⟩ u = putB (w.setCell ⟨n, j, none⟩ u) g arr e := by
  simp only [World.setCell, putB]
  congr 1
  apply Array.ext_getElem?
  intro k
  rw [Array.getElem?_modify, Array.getElem?_setIfInBounds, Array.getElem?_setIfInBounds, Array.getElem?_modify]
  by_cases hk : n = k
  · subst hk; simp [Ne.symm h]
  · simp [hk]
end
end Go.Proofs.Ytpfmcobkfofbjaa
namespace Go.Proofs.Ytpfmcobkfofbjaa
open Go Go.RowKit
structure TailL where
  l : List Value
  X : Array Obj
  d : Nat
instance : Nonempty TailL := ⟨⟨[], #[], 0⟩⟩
/-- The contents of the box at stage m. -/
def boxAt (W : World) (b : Nat) (T : TypeId) (L : Nat → List Value) (m : Nat) (w : World) : Prop := ∃ z : Tail, w = more (putB W b (L m) T) z.X z.d
def boxAny (W : World) (b : Nat) (T : TypeId) (w : World) : Prop := ∃ y : TailL, w = more (putB W b y.l T) y.X y.d
def late (m : Nat) : Bool := decide (0 < m)
theorem boxAt_stays {W : World} {b : Nat} {T : TypeId} {L : Nat → List Value} (m : Nat) (w w' : World) (h : boxAt W b T L m w) (hb : Below w.heap.size w w') : boxAt W b T L m w' := by
  obtain ⟨z, rfl⟩ := h
  obtain ⟨Y, n, rfl⟩ := Below.ext hb
  exact ⟨⟨z.X ++ Y, n⟩, more_more⟩
theorem region_box2 {P : Program} {Q : Exit → Act → World → Prop} {id : Nat} {a : Act} {W : World} {l : Array Oper} (hs : List (Nat × Bool)) (ts : List Nat) (last : Nat) (b : Nat) (T : TypeId) (L : Nat → List Value) (hm : P.follows .mixedOrders = true) (hB : stageW l hs ts last = true) (hb : W.heap[b]? = some (.cells ⟨L 0⟩ T (0, 0)))
    (h : headW P l (fun w => ∃ z : Tail, w = more (putB W b (L 0) T) z.X z.d) (fun w => ∃ y : TailL, w = more (putB W b y.l T) y.X y.d) (tailW P l (boxAt W b T L) Q late last ts 0) hs a) : (Code.region id l true).wp P Q a W :=
  region_stageW (S := Nat) (Cl := boxAt W b T L) hs ts last late 0 rfl hm hB (fun s w hf h => by
    have : s = 0 := by unfold late at hf; simpa using hf
    subst this; exact h) (fun s w h => by obtain ⟨z, h⟩ := h; exact ⟨⟨_, z.X, z.d⟩, h⟩) boxAt_stays ⟨⟨#[], W.drawn + 1⟩, by rw [putB_self hb]; exact (more_none W _).symm⟩ h
end Go.Proofs.Ytpfmcobkfofbjaa
namespace Go.Proofs.Ytpfmcobkfofbjaa
open Go Go.RowKit
def StP := { p : World → Prop // ∀ w w', p w → Below w.heap.size w w' → p w' }
def clP (C : World → Prop) (s : Bool × StP) (w : World) : Prop := s.2.1 w ∧ (s.1 = false → C w)
section
variable {P : Program} {ops : Array Oper} {C D : World → Prop} {Q : Exit → Act → World → Prop} {last : Nat}
theorem gives_quiet {a : Act} {o : Oper} {w : World} {v : Value} (h : o.quietAt P a (fun w' => Stays w w') w v) : Oper.givesAt P a o (fun u w' => u = v ∧ Below w.heap.size w w') w := by
  unfold Oper.quietAt at h
  unfold Oper.givesAt
  generalize (execOp a.eval o).run P w = r at *
  cases r with
  | halt x w' => simp only [Oper.quietUpon] at h
  | ok n w' =>
    cases n <;> simp only [Oper.quietUpon] at h <;> simp only
    case value u => obtain ⟨e1, e2⟩ := h; subst e1; exact ⟨e2, Below.refl _ _⟩
    case skip => obtain ⟨e1, e2⟩ := h; subst e1; exact ⟨e2.symm, Below.refl _ _⟩
    case enter g args =>
      obtain ⟨e1, hc⟩ := h
      subst e1
      exact hc.mono fun e w'' ⟨he, hb⟩ => ⟨v, he, rfl, hb⟩
/-- The order: 0 a quiet step, 1 one that reads what C says, 2 one that may come up alone. -/
def mixP (ops : Array Oper) (last : Nat) : List (Nat × Nat) → Array Bool → Bool
  | [], listed => decide (Region.ready .any ops listed = [])
  | (i, k) :: is, listed => (if k = 2 then decide (Region.ready .any ops listed = [i]) else ((Region.ready .any ops listed).contains i && Region.free .any ops listed i && (k == 0 || lastB .any ops last i))) && mixP ops last is (listed.setIfInBounds i true)
def stage3 (ops : Array Oper) (is : List (Nat × Nat)) (last : Nat) : Bool := Region.noSelect ops && decide (is.length = ops.size) && mixP ops last is (Array.replicate ops.size false)
def runW (P : Program) (ops : Array Oper) (C : World → Prop) (Q : Exit → Act → World → Prop) (last : Nat) : List (Nat × Nat) → Bool × StP → Act → Prop
  | [], s, a => ∀ w, clP C s w → Q .normal a w
  | (i, k) :: is, s, a => ∃ o, ops[i]? = some o ∧ if k = 2 then GivesB P ops (clP C) o s a (fun s' a' => (s.1 = false → s'.1 = true → i = last) ∧ runW P ops C Q last is s' a')
      else ((k ≠ 0 → s.1 = false) ∧ if Region.wanted o (yielded ops a.tmps) then ∃ v, (∀ w, (if k = 0 then True else C w) → o.quietAt P a (fun w' => Stays w w') w v) ∧ runW P ops C Q last is s (a.put o.dst v) else runW P ops C Q last is s (a.put o.dst undef))
theorem anyW_run (hsel : Region.noSelect ops = true) (is : List (Nat × Nat)) : ∀ (s : Bool × StP) (listed : Array Bool) (a : Act), mixP ops last is listed = true → runW P ops C Q last is s a →
    anyW P .any ops C (fun _ => True) (clP C) Q Prod.fst last is.length s listed a := by
  induction is with
  | nil => intro s listed a hB h; exact ⟨by simpa [mixP] using hB, h⟩
  | cons x is ih =>
    obtain ⟨i, k⟩ := x
    intro s listed a hB h
    obtain ⟨o, h0, h⟩ := h
    simp only [mixP, Bool.and_eq_true] at hB
    by_cases hk : k = 2
    · rw [if_pos hk] at h hB
      have hr := hB.1
      simp only [decide_eq_true_eq] at hr
      refine ⟨fun h1 => (by rw [hr] at h1; cases h1), fun j hj => ?_⟩
      rw [hr] at hj
      obtain rfl : j = i := by simpa using hj
      exact ⟨o, h0, .inr ⟨h.1, fun w hw => (h.2 w hw).mono fun u w' ⟨s', hw', hl, hk⟩ => ⟨s', hw', hl, ih s' _ _ hB.2 hk⟩⟩⟩
    · rw [if_neg hk] at h hB
      obtain ⟨hf, h⟩ := h
      simp only [Bool.and_eq_true, Bool.or_eq_true, beq_iff_eq] at hB
      obtain ⟨⟨⟨hr, hfr⟩, hl⟩, hm⟩ := hB
      have hr' : i ∈ Region.ready .any ops listed := by simpa using hr
      have hy : ∀ v, YieldsB P ops (fun w => if k = 0 then True else C w) o v a → ((s.1 = false ∧ (∀ o, ops[last]? = some o → ∃ e ∈ o.after, Region.binds .any e = true ∧ e.on = i) ∧ YieldsB P ops C o v a) ∨ YieldsB P ops (fun _ => True) o v a) := fun v h => by
        by_cases k0 : k = 0
        · exact .inr (by simpa [k0] using h)
        · refine .inl ⟨hf k0, fun o ho => ?_, by simpa [k0] using h⟩
          have h9 := hl.resolve_left k0
          simp only [lastB, ho, Array.any_eq_true', Bool.and_eq_true, beq_iff_eq] at h9
          exact h9
      by_cases hwt : Region.wanted o (yielded ops a.tmps) = true
      · rw [if_pos hwt] at h
        obtain ⟨v, hv, hrest⟩ := h
        exact anyW_first h0 (Region.noSelect_spec hsel) _ s listed a (Region.free_spec h0 hfr) hr' (hy v (.inl ⟨hwt, hv⟩)) (ih _ _ _ hm hrest)
      · rw [if_neg hwt] at h
        exact anyW_first h0 (Region.noSelect_spec hsel) _ s listed a (Region.free_spec h0 hfr) hr' (hy undef (.inr ⟨by simpa using hwt, rfl⟩)) (ih _ _ _ hm h)
theorem region_stage3 {id : Nat} {a : Act} {w : World} {l : Array Oper} (is : List (Nat × Nat)) (last : Nat) (s : StP) (hm : P.follows .mixedOrders = true) (hB : stage3 l is last = true) (hst : ∀ w w', C w → Below w.heap.size w w' → C w') (h0 : s.1 w) (hc : C w)
    (h : runW P l C Q last is (false, s) a) : (Code.region id l true).wp P Q a w := by
  simp only [stage3, Bool.and_eq_true, decide_eq_true_eq] at hB
  obtain ⟨⟨hsel, hn⟩, hlex⟩ := hB
  refine wp_region_any hm ?_
  have H := anyW_run (P := P) (C := C) (Q := Q) (ops := l) (last := last) hsel is (false, s) (Array.replicate l.size false) a hlex h
  rw [hn] at H
  exact wpAny_of_anyW (S := Bool × StP) (Cl := clP C) (fin := Prod.fst) (fun s w hf h => h.2 hf) (fun _ _ _ => trivial) (fun s w w' h hb => ⟨s.2.2 w w' h.1 hb, fun q => hst w w' (h.2 q) hb⟩) _ _ _ a w.drew
    ⟨s.2 w _ h0 (Below.drew (Below.refl _ _)), fun _ => hst w _ hc (Below.drew (Below.refl _ _))⟩ H
theorem run_quiet {s : Bool × StP} {a : Act} {o : Oper} {i : Nat} {is : List (Nat × Nat)} (ho : ops[i]? = some o)
    (h : ∀ K' : Act → Prop, (∀ a, runW P ops C Q last is s a → K' a) → if Region.wanted o (yielded ops a.tmps) then ∃ v, (∀ w, o.quietAt P a (fun w' => Stays w w') w v) ∧ K' (a.put o.dst v) else K' (a.put o.dst undef)) : runW P ops C Q last ((i, 0) :: is) s a := by
  have h' := h _ (fun _ h => h)
  refine ⟨o, ho, ?_⟩
  rw [if_neg (by decide)]
  refine ⟨fun q => absurd rfl q, ?_⟩
  split at h'
  case isTrue hw => rw [if_pos hw]; obtain ⟨v, h1, h2⟩ := h'; exact ⟨v, fun w _ => h1 w, h2⟩
  case isFalse hw => rw [if_neg hw]; exact h'
theorem run_load {s : StP} {a : Act} {o : Oper} {i : Nat} {is : List (Nat × Nat)} (ho : ops[i]? = some o)
    (h : ∀ K' : Act → Prop, (∀ a, runW P ops C Q last is (false, s) a → K' a) → if Region.wanted o (yielded ops a.tmps) then ∃ v, (∀ w, C w → o.quietAt P a (fun w' => Stays w w') w v) ∧ K' (a.put o.dst v) else K' (a.put o.dst undef)) : runW P ops C Q last ((i, 1) :: is) (false, s) a := by
  have h' := h _ (fun _ h => h)
  refine ⟨o, ho, ?_⟩
  rw [if_neg (by decide)]
  refine ⟨fun _ => rfl, ?_⟩
  split at h'
  case isTrue hw => rw [if_pos hw]; obtain ⟨v, h1, h2⟩ := h'; exact ⟨v, fun w hc => h1 w (by simpa using hc), h2⟩
  case isFalse hw => rw [if_neg hw]; exact h'
theorem run_step {s : StP} {a : Act} {o : Oper} {i : Nat} {is : List (Nat × Nat)} (ho : ops[i]? = some o) (hw : Region.wanted o (yielded ops a.tmps) = true)
    (h : ∀ K' : StP → Act → Prop, (∀ s a, runW P ops C Q last is (false, s) a → K' s a) → ∀ w, s.1 w → C w → Oper.givesAt P a o (fun u w' => ∃ s' : StP, s'.1 w' ∧ C w' ∧ K' s' (a.put o.dst u)) w) : runW P ops C Q last ((i, 2) :: is) (false, s) a := by
  refine ⟨o, ho, ?_⟩
  rw [if_pos rfl]
  refine ⟨hw, fun w hcl => (h (fun s a => runW P ops C Q last is (false, s) a) (fun _ _ h => h) w hcl.1 (hcl.2 rfl)).mono fun u w' ⟨s', h1, h2, h3⟩ => ?_⟩
  exact ⟨(false, s'), ⟨h1, fun _ => h2⟩, (fun _ q => by cases q), h3⟩
/-- The last one, a store. -/
theorem run_last {s : StP} {a : Act} {o : Oper} (ho : ops[last]? = some o) (hw : Region.wanted o (yielded ops a.tmps) = true) (R : StP)
    (h : ∀ w, s.1 w → C w → Oper.givesAt P a o (fun u w' => u = undef ∧ R.1 w') w) (hr : ∀ w, R.1 w → Q .normal (a.put o.dst undef) w) : runW P ops C Q last [(last, 2)] (false, s) a := by
  refine ⟨o, ho, ?_⟩
  rw [if_pos rfl]
  refine ⟨hw, fun w hcl => (h w hcl.1 (hcl.2 rfl)).mono fun u w' ⟨e, h1⟩ => ?_⟩
  subst e
  exact ⟨(true, R), ⟨h1, fun q => by cases q⟩, (fun _ _ => rfl), fun w h2 => hr w h2.1⟩
end
end Go.Proofs.Ytpfmcobkfofbjaa
