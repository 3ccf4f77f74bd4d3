/- A region that draws its order and puts what it reckons into a new box: quiet operations, the box laid at whatever time, its store. -/
import Derived.Test.YtpfmcobkfofbjaaStage
import Derived.Test.YtpfmcobkfofbjaaMark
namespace Go.Proofs.Ytpfmcobkfofbjaa
open Go Go.RowKit
section
variable {P : Program} {ops : Array Oper} {C : World → Prop} {Q : Exit → Act → World → Prop}
theorem headS_step {K : Act → Prop} {a : Act} {o : Oper} {rest : List Oper}
    (h : ∀ K' : Act → Prop, (∀ a, headS P ops C K rest a → K' a) → if Region.wanted o (yielded ops a.tmps) then ∃ v, (∀ w, C w → o.quietAt P a (fun w' => Stays w w') w v) ∧ K' (a.put o.dst v) else K' (a.put o.dst undef)) : headS P ops C K (o :: rest) a :=
  h _ (fun _ h => h)
theorem headS_nil {K : Act → Prop} {a : Act} (h : K a) : headS P ops C K [] a := h
theorem calls_stays {f : FuncId} {args : Array Value} {w : World} {v : Value} (h : Calls P f args w fun e w' => e = .returned v ∧ Below w.heap.size w w') : Calls P f args w fun e w' => e = .returned v ∧ Stays w w' := h
theorem calls_same {f : FuncId} {args : Array Value} {w : World} {v : Value} (h : Calls P f args w fun e w' => e = .returned v ∧ w = w') : Calls P f args w fun e w' => e = .returned v ∧ Stays w w' :=
  h.mono fun _ _ ⟨he, hw⟩ => ⟨he, by subst hw; exact (Below.refl _ _ : Below w.heap.size w w)⟩
theorem cut_at {X : Array Obj} {k : Nat} {o : Obj} (h : X[k]? = some o) : ∃ X1 X2 : Array Obj, X1.size = k ∧ X = X1.push o ++ X2 := by
  obtain ⟨hk, ho⟩ := Array.getElem?_eq_some_iff.1 h
  refine ⟨⟨X.toList.take k⟩, ⟨X.toList.drop (k + 1)⟩, by simp; omega, ?_⟩
  apply Array.ext'
  have h1 : X.toList[k]'(by simpa using hk) = o := by simpa using ho
  have h2 : X.toList = X.toList.take k ++ o :: X.toList.drop (k + 1) := by
    rw [← h1, ← List.drop_eq_getElem_cons, List.take_append_drop]
  simpa using h2
theorem more_split {W : World} {X : Array Obj} {d b : Nat} {o : Obj} (h : (more W X d).heap[b]? = some o) (hb : W.heap.size ≤ b) : ∃ X1 X2 : Array Obj, b = W.heap.size + X1.size ∧ more W X d = more ((more W X1 0).alloc o) X2 d := by
  have hx : X[b - W.heap.size]? = some o := by
    simp only [more] at h
    rwa [Array.getElem?_append_right hb] at h
  obtain ⟨X1, X2, e1, rfl⟩ := cut_at hx
  refine ⟨X1, X2, by omega, ?_⟩
  unfold more World.alloc
  congr 1
  apply Array.ext'
  simp
theorem more_alloc (W : World) (X : Array Obj) (d : Nat) (o : Obj) : (more W X d).alloc o = more W (X.push o) d := by
  unfold more World.alloc
  congr 1
  apply Array.ext'
  simp
/-- The stages of a box: not laid; laid at b; filled. -/
def boxCl (W : World) (T : TypeId) (zs vs : List Value) : Nat × Nat → World → Prop
  | (0, _), w => ∃ z : Tail, w = more W z.X z.d
  | (1, b), w => (∃ z : Tail, w = more W z.X z.d) ∧ W.heap.size ≤ b ∧ w.heap[b]? = some (.cells ⟨zs⟩ T (0, 0))
  | (_ + 2, b), w => (∃ z : Tail, w = more W z.X z.d) ∧ W.heap.size ≤ b ∧ w.heap[b]? = some (.cells ⟨vs⟩ T (0, 0))
theorem ext_trans {W w w' : World} (h : ∃ z : Tail, w = more W z.X z.d) (hb : Below w.heap.size w w') : ∃ z : Tail, w' = more W z.X z.d := by
  obtain ⟨z, rfl⟩ := h
  obtain ⟨Y, m, rfl⟩ := Below.ext hb
  exact ⟨⟨z.X ++ Y, m⟩, more_more⟩
theorem boxCl_ext {W : World} {T : TypeId} {zs vs : List Value} : ∀ s w, boxCl W T zs vs s w → ∃ z : Tail, w = more W z.X z.d
  | (0, _), _, h => h
  | (1, _), _, h => h.1
  | (_ + 2, _), _, h => h.1
theorem boxCl_stays {W : World} {T : TypeId} {zs vs : List Value} : ∀ s w w', boxCl W T zs vs s w → Below w.heap.size w w' → boxCl W T zs vs s w'
  | (0, _), _, _, h, hb => ext_trans h hb
  | (1, b), w, _, h, hb => ⟨ext_trans h.1 hb, h.2.1, by rw [hb.block b (Array.getElem?_eq_some_iff.1 h.2.2).1]; exact h.2.2⟩
  | (_ + 2, b), w, _, h, hb => ⟨ext_trans h.1 hb, h.2.1, by rw [hb.block b (Array.getElem?_eq_some_iff.1 h.2.2).1]; exact h.2.2⟩
/-- The tail: the box's laying, its store, and what stands behind it and leaves the world alone. -/
theorem tail_box {W : World} {T : TypeId} {zs vs : List Value} {oA oS : Oper} {rest : List Oper} {a : Act}
    (hAw : Region.wanted oA (yielded ops a.tmps) = true)
    (hA : ∀ X d, (execOp a.eval oA).run P (more W X d) = .ok (.value (.pointer (some ⟨(more W X d).heap.size, 0, none⟩))) ((more W X d).alloc (.cells ⟨zs⟩ T)))
    (hSw : ∀ b, Region.wanted oS (yielded ops (a.put oA.dst (.pointer (some ⟨b, 0, none⟩))).tmps) = true)
    (hS : ∀ b w, b < w.heap.size → (execOp (a.put oA.dst (.pointer (some ⟨b, 0, none⟩))).eval oS).run P (putB w b zs T) = .ok .skip (putB w b vs T))
    (hrest : ∀ b, tailS P ops (boxCl W T zs vs) Q rest (2, b) ((a.put oA.dst (.pointer (some ⟨b, 0, none⟩))).put oS.dst undef)) :
    tailS P ops (boxCl W T zs vs) Q (oA :: oS :: rest) (0, 0) a := by
  refine ⟨hAw, fun w hw => ?_⟩
  obtain ⟨z, rfl⟩ := hw
  refine ⟨_, _, (1, (more W z.X z.d).heap.size), .inl (hA z.X z.d), ⟨⟨⟨z.X.push (.cells ⟨zs⟩ T), z.d⟩, more_alloc _ _ _ _⟩, by simp, heap_alloc_new _ _⟩, hSw _, fun w' hw' => ?_⟩
  · obtain ⟨⟨z', hz'⟩, hb, hh⟩ := hw'
    have hlt := (Array.getElem?_eq_some_iff.1 hh).1
    have h2 := hS _ w' hlt
    rw [putB_self hh] at h2
    refine ⟨_, _, (2, (more W z.X z.d).heap.size), .inr ⟨h2, rfl⟩, ⟨?_, hb, heap_putB hlt⟩, hrest _⟩
    have hbl : Below W.heap.size W (putB w' (more W z.X z.d).heap.size vs T) := by
      have h3 : Below W.heap.size W w' := by rw [hz']; exact Below.more (Below.refl _ _) (Nat.le_refl _) _ _
      exact h3.trans (Below.putB hb)
    obtain ⟨Y, m, e⟩ := Below.ext hbl
    exact ⟨⟨Y, m⟩, e⟩
theorem tail_done {W : World} {T : TypeId} {zs vs : List Value} {b : Nat} {a : Act} (h : ∀ X1 X2 d, b = W.heap.size + X1.size → Q .normal a (more ((more W X1 0).alloc (.cells ⟨vs⟩ T)) X2 d)) :
    tailS P ops (boxCl W T zs vs) Q [] (2, b) a := by
  rintro w ⟨⟨z, rfl⟩, hb, hh⟩
  obtain ⟨X1, X2, e1, e2⟩ := more_split hh hb
  rw [e2]
  exact h X1 X2 z.d e1
theorem tail_quiet {W : World} {T : TypeId} {zs vs : List Value} {b : Nat} {a : Act} {o : Oper} {rest : List Oper} {v : Value} (hw : Region.wanted o (yielded ops a.tmps) = true) (ho : ∀ w, (execOp a.eval o).run P w = .ok (.value v) w)
    (h : tailS P ops (boxCl W T zs vs) Q rest (2, b) (a.put o.dst v)) : tailS P ops (boxCl W T zs vs) Q (o :: rest) (2, b) a :=
  ⟨hw, fun w hw' => ⟨v, w, (2, b), .inl (ho w), hw', h⟩⟩
/-- The region, from a world with more blocks behind it. -/
theorem region_box {id : Nat} {W : World} {X0 : Array Obj} {d0 : Nat} {a : Act} {l : List Oper} (n : Nat) (T : TypeId) (zs vs : List Value) (hm : P.follows .mixedOrders = true) (hB : stageB l.toArray n = true)
    (h : headS P l.toArray (fun w => ∃ z : Tail, w = more W z.X z.d) (tailS P l.toArray (boxCl W T zs vs) Q (l.drop n) (0, 0)) (l.take n) a) : (Code.region id l.toArray true).wp P Q a (more W X0 d0) :=
  region_stage (S := Nat × Nat) (Cl := boxCl W T zs vs) n (0, 0) hm hB boxCl_ext boxCl_stays ⟨⟨X0, d0 + 1⟩, rfl⟩ h
theorem region_box0 {id : Nat} {W : World} {a : Act} {l : List Oper} (n : Nat) (T : TypeId) (zs vs : List Value) (hm : P.follows .mixedOrders = true) (hB : stageB l.toArray n = true)
    (h : headS P l.toArray (fun w => ∃ z : Tail, w = more W z.X z.d) (tailS P l.toArray (boxCl W T zs vs) Q (l.drop n) (0, 0)) (l.take n) a) : (Code.region id l.toArray true).wp P Q a W :=
  region_stage (S := Nat × Nat) (Cl := boxCl W T zs vs) n (0, 0) hm hB boxCl_ext boxCl_stays ⟨⟨#[], W.drawn + 1⟩, (more_none W _).symm⟩ h
end
end Go.Proofs.Ytpfmcobkfofbjaa
