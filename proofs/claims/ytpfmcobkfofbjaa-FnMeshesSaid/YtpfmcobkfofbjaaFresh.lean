/- A region that draws its order, lays some variables and fills them: 'a, b := f, g' where both are boxed: quiet operations first, then the variables' laying and their stores in whatever order. -/
import Derived.Test.YtpfmcobkfofbjaaStageF
import Derived.Test.YtpfmcobkfofbjaaBox
namespace Go.Proofs.Ytpfmcobkfofbjaa
open Go Go.RowKit
section
variable {P : Program} {ops : Array Oper} {md : Region.Mode} {C : World → Prop} {S : Type} {Cl : S → World → Prop} {Q : Exit → Act → World → Prop}
def lexH (md : Region.Mode) (ops : Array Oper) : List Nat → Array Bool → Bool
  | [], _ => true
  | i :: hs, listed => (Region.ready md ops listed).contains i && Region.free md ops listed i && lexH md ops hs (listed.setIfInBounds i true)
def lsAfter : List Nat → Array Bool → Array Bool
  | [], listed => listed
  | i :: hs, listed => lsAfter hs (listed.setIfInBounds i true)
theorem anyS_headK {s : S} {g : Nat} {K : Act → Prop} (hsel : Region.noSelect ops = true) (hs : List Nat) : ∀ (listed : Array Bool) (a : Act), (∀ a, K a → anyS P md ops C Cl Q g s (lsAfter hs listed) a) → lexH md ops hs listed = true → headP P ops C K hs a → anyS P md ops C Cl Q (hs.length + g) s listed a := by
  induction hs with
  | nil =>
    intro listed a hK _ h
    rw [List.length_nil, Nat.zero_add]
    exact hK a h
  | cons i hs ih =>
    intro listed a hK hB h
    obtain ⟨o, h0, h⟩ := h
    simp only [lexH, Bool.and_eq_true] at hB
    have hr' : i ∈ Region.ready md ops listed := by simpa using hB.1.1
    have e : (i :: hs).length + g = (hs.length + g) + 1 := by simp; omega
    rw [e]
    by_cases hwt : Region.wanted o (yielded ops a.tmps) = true
    · rw [if_pos hwt] at h
      obtain ⟨v, hv, hrest⟩ := h
      exact anyS_first h0 (Region.noSelect_spec hsel) _ s listed a (Region.free_spec h0 hB.1.2) hr' (.inl ⟨hwt, hv⟩) (ih _ _ hK hB.2 hrest)
    · rw [if_neg hwt] at h
      exact anyS_first h0 (Region.noSelect_spec hsel) _ s listed a (Region.free_spec h0 hB.1.2) hr' (.inr ⟨by simpa using hwt, rfl⟩) (ih _ _ hK hB.2 h)
end
/-- The pointers that are known, in their slots. -/
def putAll (a : Act) (d : Nat → Nat) (β : Nat → Option Nat) : Nat → Act
  | 0 => a
  | k + 1 => match β k with
    | some b => (putAll a d β k).put (some (d k)) (.pointer (some ⟨b, 0, none⟩))
    | none => putAll a d β k
def upB (β : Nat → Option Nat) (i b : Nat) : Nat → Option Nat := fun j => if j = i then some b else β j
theorem upB_same (β : Nat → Option Nat) (i b : Nat) : upB β i b i = some b := by simp [upB]
theorem upB_other {β : Nat → Option Nat} {i b j : Nat} (h : j ≠ i) : upB β i b j = β j := by simp [upB, h]
theorem putAll_below (a : Act) (d : Nat → Nat) (β : Nat → Option Nat) (i b : Nat) : ∀ k, k ≤ i → putAll a d (upB β i b) k = putAll a d β k := by
  intro k
  induction k with
  | zero => intro _; rfl
  | succ k ih =>
    intro hk
    simp only [putAll, upB_other (show k ≠ i by omega), ih (by omega)]
theorem putAll_up (a : Act) {d : Nat → Nat} {n : Nat} (hd : ∀ i j, i < n → j < n → i ≠ j → d i ≠ d j) (β : Nat → Option Nat) (i b : Nat) (hi : i < n) (hβ : β i = none) :
    ∀ k, i < k → k ≤ n → putAll a d (upB β i b) k = (putAll a d β k).put (some (d i)) (.pointer (some ⟨b, 0, none⟩)) := by
  intro k
  induction k with
  | zero => intro h; omega
  | succ k ih =>
    intro h hk
    by_cases e : i = k
    · subst e
      simp only [putAll, upB_same, hβ, putAll_below a d β i b i (Nat.le_refl _)]
    · simp only [putAll, upB_other (Ne.symm e), ih (by omega) (by omega)]
      cases β k with
      | none => rfl
      | some c =>
        exact Act.put_comm _ _ _ (fun x hx hy => by
          simp only [Option.some.injEq] at hx hy
          exact hd i k hi (by omega) e (hx.trans hy.symm))
theorem put_size (a : Act) (x : Option Tmp) (v : Value) : (a.put x v).tmps.size = a.tmps.size := by cases x <;> simp [Act.put]
theorem putAll_size (a : Act) (d : Nat → Nat) (β : Nat → Option Nat) : ∀ k, (putAll a d β k).tmps.size = a.tmps.size := by
  intro k
  induction k with
  | zero => rfl
  | succ k ih =>
    simp only [putAll]
    split
    · rw [put_size, ih]
    · exact ih
theorem putAll_other (a : Act) (d : Nat → Nat) (β : Nat → Option Nat) (t : Nat) : ∀ k, (∀ j, j < k → d j ≠ t) → (putAll a d β k).eval (.tmp t) = a.eval (.tmp t) := by
  intro k
  induction k with
  | zero => intro _; rfl
  | succ k ih =>
    intro h
    simp only [putAll]
    split
    · rw [Act.eval_put (fun x hx e => by
        simp only [Option.some.injEq] at hx
        simp only [Operand.tmp.injEq] at e
        exact h k (by omega) (hx.trans e.symm)), ih (fun j hj => h j (by omega))]
    · exact ih (fun j hj => h j (by omega))
theorem eval_put_same (a : Act) (t : Nat) (v : Value) (h : t < a.tmps.size) : (a.put (some t) v).eval (.tmp t) = v := by
  simp [Act.put, Act.eval, h]
theorem putAll_at (a : Act) {d : Nat → Nat} {n : Nat} (hd : ∀ i j, i < n → j < n → i ≠ j → d i ≠ d j) (β : Nat → Option Nat) (i b : Nat) (hi : i < n) (hβ : β i = some b) (hsz : d i < a.tmps.size) :
    ∀ k, i < k → k ≤ n → (putAll a d β k).eval (.tmp (d i)) = .pointer (some ⟨b, 0, none⟩) := by
  intro k
  induction k with
  | zero => intro h; omega
  | succ k ih =>
    intro h hk
    by_cases e : i = k
    · subst e
      simp only [putAll, hβ]
      exact eval_put_same _ _ _ (by rw [putAll_size]; exact hsz)
    · simp only [putAll]
      split
      · rw [Act.eval_put (fun x hx e' => by
          simp only [Option.some.injEq] at hx
          simp only [Operand.tmp.injEq] at e'
          exact hd i k hi (by omega) e (e'.trans hx.symm))]
        exact ih (by omega) (by omega)
      · exact ih (by omega) (by omega)
/-- The variables that are laid; the first k are filled. -/
def freshCl (W : World) (T : TypeId) (zs : List Value) (vs : Nat → List Value) : (Nat → Option Nat) × Nat → World → Prop := fun s w =>
  Below W.heap.size W w ∧ (∀ i b, s.1 i = some b → W.heap.size ≤ b ∧ w.heap[b]? = some (.cells ⟨if i < s.2 then vs i else zs⟩ T (0, 0))) ∧ ∀ i j b, s.1 i = some b → s.1 j = some b → i = j
theorem freshCl_ext {W : World} {T : TypeId} {zs : List Value} {vs : Nat → List Value} (s : (Nat → Option Nat) × Nat) (w : World) (h : freshCl W T zs vs s w) : ∃ z : Tail, w = more W z.X z.d := by
  obtain ⟨X, d, e⟩ := Below.ext h.1
  exact ⟨⟨X, d⟩, e⟩
theorem freshCl_stays {W : World} {T : TypeId} {zs : List Value} {vs : Nat → List Value} (s : (Nat → Option Nat) × Nat) (w w' : World) (h : freshCl W T zs vs s w) (hb : Below w.heap.size w w') : freshCl W T zs vs s w' :=
  ⟨h.1.trans (hb.mono h.1.size), fun i b hi => ⟨(h.2.1 i b hi).1, by rw [hb.block b (Array.getElem?_eq_some_iff.1 (h.2.1 i b hi).2).1]; exact (h.2.1 i b hi).2⟩, h.2.2⟩
/-- All ways in which the variables may be laid and filled (in their order), checked by the kernel. -/
def freshB (md : Region.Mode) (ops : Array Oper) (n : Nat) (p q : Nat → Nat) : Nat → Array Bool → List Nat → Nat → Bool
  | 0, listed, A, k => (Region.ready md ops listed).isEmpty && decide (k = n) && (List.range n).all fun j => A.contains j
  | f + 1, listed, A, k => !(Region.ready md ops listed).isEmpty && (Region.ready md ops listed).all fun i =>
      ((List.range n).any fun j => decide (p j = i) && !A.contains j && freshB md ops n p q f (listed.setIfInBounds i true) (j :: A) k) ||
      (decide (q k = i) && decide (k < n) && A.contains k && freshB md ops n p q f (listed.setIfInBounds i true) A (k + 1))
section
variable {P : Program} {ops : Array Oper} {md : Region.Mode} {C : World → Prop} {Q : Exit → Act → World → Prop}
theorem anyS_fresh {W : World} {T : TypeId} {zs : List Value} {vs : Nat → List Value} {n : Nat} {p q d tv : Nat → Nat} {val : Nat → Value} {a0 : Act} (hd : ∀ i j, i < n → j < n → i ≠ j → d i ≠ d j) (hdv : ∀ i j, i < n → j < n → d i ≠ tv j) (hsz : ∀ i, i < n → d i < a0.tmps.size)
    (hv : ∀ j, j < n → a0.eval (.tmp (tv j)) = val j)
    (hA : ∀ j, j < n → ∃ o, ops[p j]? = some o ∧ o.dst = some (d j) ∧ o.guard = none ∧ ∀ ρ w, (execOp ρ o).run P w = .ok (.value (.pointer (some ⟨w.heap.size, 0, none⟩))) (w.alloc (.cells ⟨zs⟩ T)))
    (hS : ∀ j, j < n → ∃ o, ops[q j]? = some o ∧ o.dst = none ∧ o.guard = none ∧ ∀ ρ b w, ρ (.tmp (d j)) = .pointer (some ⟨b, 0, none⟩) → ρ (.tmp (tv j)) = val j → b < w.heap.size → (execOp ρ o).run P (putB w b zs T) = .ok .skip (putB w b (vs j) T))
    (hQ : ∀ β, (∀ j, j < n → (β j).isSome = true) → ∀ w, freshCl W T zs vs (β, n) w → Q .normal (putAll a0 d β n) w) (f : Nat) :
    ∀ (listed : Array Bool) (A : List Nat) (k : Nat) (β : Nat → Option Nat), freshB md ops n p q f listed A k = true → (∀ j, j < n → (j ∈ A ↔ (β j).isSome = true)) → (∀ j, (β j).isSome = true → j < n) → (∀ j, j < k → (β j).isSome = true) → anyS P md ops C (freshCl W T zs vs) Q f (β, k) listed (putAll a0 d β n) := by
  have hwant : ∀ {o : Oper} (y : Nat → Option Bool), o.guard = none → Region.wanted o y = true := fun y h => by simp [Region.wanted, h]
  induction f with
  | zero =>
    intro listed A k β hB hAβ hβ hkβ
    simp only [freshB, Bool.and_eq_true, decide_eq_true_eq, List.all_eq_true, List.mem_range] at hB
    obtain ⟨⟨h1, rfl⟩, h3⟩ := hB
    exact ⟨by simpa using h1, hQ β (fun j hj => (hAβ j hj).1 (by simpa using h3 j hj))⟩
  | succ f ih =>
    intro listed A k β hB hAβ hβ hkβ
    simp only [freshB, Bool.and_eq_true, List.all_eq_true, Bool.not_eq_true'] at hB
    refine ⟨fun h0 => (by rw [h0] at hB; simp at hB), fun i hi => ?_⟩
    have h2 := hB.2 i hi
    simp only [Bool.or_eq_true, List.any_eq_true, List.mem_range, Bool.and_eq_true, decide_eq_true_eq, Bool.not_eq_true'] at h2
    rcases h2 with ⟨j, hj, ⟨rfl, hjA⟩, hrec⟩ | ⟨⟨⟨rfl, hk⟩, hkA⟩, hrec⟩
    · obtain ⟨o, ho, hdst, hg, hrun⟩ := hA j hj
      have hjA' : j ∉ A := by simpa using hjA
      have hβj : β j = none := by
        cases e : β j with
        | none => rfl
        | some b => exact absurd ((hAβ j hj).2 (by rw [e]; rfl)) hjA'
      refine ⟨o, ho, .inr ⟨hwant _ hg, fun w hw => ⟨_, _, (upB β j w.heap.size, k), .inl (hrun _ w), ?_, ?_⟩⟩⟩
      · obtain ⟨h1, h2, h3⟩ := hw
        refine ⟨Below.alloc h1 h1.size _, fun i b hib => ?_, fun i i' b hi1 hi2 => ?_⟩
        · by_cases e : i = j
          · subst e
            rw [show (upB β i w.heap.size, k).1 i = some w.heap.size from upB_same _ _ _] at hib
            cases hib
            refine ⟨h1.size, ?_⟩
            rw [heap_alloc_new, if_neg (show ¬ i < (upB β i w.heap.size, k).2 from fun h => by have := hkβ i h; rw [hβj] at this; cases this)]
          · have hib' : β i = some b := by rw [← hib]; exact (upB_other e).symm
            obtain ⟨h4, h5⟩ := h2 i b hib'
            exact ⟨h4, by rw [Below.block (Below.alloc (Below.refl _ _) (Nat.le_refl _) _) b (Array.getElem?_eq_some_iff.1 h5).1]; exact h5⟩
        · have lt : ∀ i, i ≠ j → (upB β j w.heap.size) i = some b → b < w.heap.size := fun i e hib => by
            have hib' : β i = some b := by rw [← hib]; exact (upB_other e).symm
            exact (Array.getElem?_eq_some_iff.1 (h2 i b hib').2).1
          by_cases e1 : i = j
          · by_cases e2 : i' = j
            · rw [e1, e2]
            · have := lt i' e2 hi2
              rw [e1, show (upB β j w.heap.size, k).1 j = some w.heap.size from upB_same _ _ _] at hi1
              cases hi1
              omega
          · by_cases e2 : i' = j
            · have := lt i e1 hi1
              rw [e2, show (upB β j w.heap.size, k).1 j = some w.heap.size from upB_same _ _ _] at hi2
              cases hi2
              omega
            · exact h3 i i' b (by rw [← hi1]; exact (upB_other e1).symm) (by rw [← hi2]; exact (upB_other e2).symm)
      · rw [hdst, ← putAll_up a0 hd β j w.heap.size hj hβj n hj (Nat.le_refl _)]
        refine ih _ (j :: A) k _ hrec (fun i hi => ?_) (fun i hi => ?_) (fun i hi => ?_)
        · by_cases e : i = j
          · subst e; simp [upB_same]
          · rw [upB_other e, ← hAβ i hi]; simp [e]
        · by_cases e : i = j
          · rw [e]; exact hj
          · rw [upB_other e] at hi; exact hβ i hi
        · by_cases e : i = j
          · rw [e, upB_same]; rfl
          · rw [upB_other e]; exact hkβ i hi
    · obtain ⟨o, ho, hdst, hg, hrun⟩ := hS k hk
      have hkA' : k ∈ A := by simpa using hkA
      obtain ⟨b, hb⟩ := Option.isSome_iff_exists.1 ((hAβ k hk).1 hkA')
      refine ⟨o, ho, .inr ⟨hwant _ hg, fun w hw => ?_⟩⟩
      obtain ⟨h1, h2, h3⟩ := hw
      obtain ⟨h4, h5⟩ := h2 k b hb
      rw [show (if k < (β, k).2 then vs k else zs) = zs from if_neg (Nat.lt_irrefl k)] at h5
      have hlt := (Array.getElem?_eq_some_iff.1 h5).1
      have hr := hrun (putAll a0 d β n).eval b w (putAll_at a0 hd β k b hk hb (hsz k hk) n hk (Nat.le_refl _)) (by rw [putAll_other a0 d β (tv k) n (fun j hj => hdv j k hj hk)]; exact hv k hk) hlt
      rw [putB_self h5] at hr
      refine ⟨_, _, (β, k + 1), .inr ⟨hr, rfl⟩, ⟨h1.trans (Below.putB h4), fun i c hic => ?_, h3⟩, ?_⟩
      · obtain ⟨h6, h7⟩ := h2 i c hic
        refine ⟨h6, ?_⟩
        by_cases e : i = k
        · subst e
          obtain rfl : b = c := Option.some.inj (hb.symm.trans hic)
          rw [heap_putB hlt, if_pos (show i < (β, i + 1).2 from Nat.lt_succ_self i)]
        · rw [heap_putB_other _ (fun e' => e (h3 i k b (by rw [← e']; exact hic) hb)), h7]
          by_cases e2 : i < k
          · rw [if_pos (show i < (β, k).2 from e2), if_pos (show i < (β, k + 1).2 from Nat.lt_succ_of_lt e2)]
          · rw [if_neg (show ¬ i < (β, k).2 from e2), if_neg (show ¬ i < (β, k + 1).2 from fun h => e (by have : i < k + 1 := h; omega))]
      · rw [hdst]
        exact ih _ A (k + 1) β hrec hAβ hβ (fun j hj => by
          by_cases e : j = k
          · rw [e, hb]; rfl
          · exact hkβ j (by omega))
/-- The region whole. -/
theorem region_fresh {id : Nat} {W : World} {a : Act} (hs : List Nat) (n : Nat) (p q d tv : Nat → Nat) (T : TypeId) (zs : List Value) (vs : Nat → List Value) (val : Nat → Value) (hm : P.follows .mixedOrders = true)
    (hB1 : (Region.noSelect ops && decide (hs.length + 2 * n = ops.size) && lexH .any ops hs (Array.replicate ops.size false) && freshB .any ops n p q (2 * n) (lsAfter hs (Array.replicate ops.size false)) [] 0) = true)
    (hd : ∀ i j, i < n → j < n → i ≠ j → d i ≠ d j) (hdv : ∀ i j, i < n → j < n → d i ≠ tv j)
    (hA : ∀ j, j < n → ∃ o, ops[p j]? = some o ∧ o.dst = some (d j) ∧ o.guard = none ∧ ∀ ρ w, (execOp ρ o).run P w = .ok (.value (.pointer (some ⟨w.heap.size, 0, none⟩))) (w.alloc (.cells ⟨zs⟩ T)))
    (hS : ∀ j, j < n → ∃ o, ops[q j]? = some o ∧ o.dst = none ∧ o.guard = none ∧ ∀ ρ b w, ρ (.tmp (d j)) = .pointer (some ⟨b, 0, none⟩) → ρ (.tmp (tv j)) = val j → b < w.heap.size → (execOp ρ o).run P (putB w b zs T) = .ok .skip (putB w b (vs j) T))
    (h : headP P ops (fun w => ∃ z : Tail, w = more W z.X z.d) (fun a0 => (∀ j, j < n → a0.eval (.tmp (tv j)) = val j) ∧ (∀ i, i < n → d i < a0.tmps.size) ∧ ∀ β, (∀ j, j < n → (β j).isSome = true) → ∀ w, freshCl W T zs vs (β, n) w → Q .normal (putAll a0 d β n) w) hs a) : (Code.region id ops true).wp P Q a W := by
  simp only [Bool.and_eq_true, decide_eq_true_eq] at hB1
  obtain ⟨⟨⟨hsel, hn⟩, hlex⟩, hfr⟩ := hB1
  refine wp_region_any hm ?_
  have e0 : ∀ a : Act, putAll a d (fun _ => none) n = a := fun a => by
    generalize n = k
    induction k with
    | zero => rfl
    | succ k ih => exact ih
  have H := anyS_headK (P := P) (C := fun w => ∃ z : Tail, w = more W z.X z.d) (Cl := freshCl W T zs vs) (Q := Q) (md := .any) (ops := ops) (s := (fun _ => none, 0)) (g := 2 * n) hsel hs (Array.replicate ops.size false) a
    (fun a0 ⟨k1, k2, k3⟩ => by
      have := anyS_fresh (P := P) (ops := ops) (md := .any) (C := fun w => ∃ z : Tail, w = more W z.X z.d) (Q := Q) (W := W) (T := T) (zs := zs) (vs := vs) (n := n) (p := p) (q := q) (d := d) (tv := tv) (val := val) (a0 := a0) hd hdv k2 k1 hA hS k3 (2 * n) (lsAfter hs (Array.replicate ops.size false)) [] 0 (fun _ => none) hfr (fun j _ => by simp) (fun j h => by simp at h) (fun j h => by omega)
      rwa [e0] at this) hlex h
  rw [hn] at H
  exact wpAny_of_anyS freshCl_ext freshCl_stays _ _ _ a W.drew ⟨Below.drew (Below.refl _ _), fun i b h => by simp at h, fun i j b h => by simp at h⟩ H
end
end Go.Proofs.Ytpfmcobkfofbjaa
