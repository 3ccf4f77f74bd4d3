/- What is walked plainly holds in a round of a loop over a function too: regions that draw their order. -/
import Derived.Test.YtkdkdejgajcneaaBox
import Derived.OrdersIn
import Derived.RangeFuncCalls
import Derived.TacticsIn
import Derived.Deep.RegionHeld3
import Derived.RangeFuncBox
namespace Go.Proofs.Ytkdkdejgajcneaa
open Go Go.RowKit
section
variable {P : Program} {ops : Array Oper} {md : Region.Mode}
/-- One way out alone. -/
def onlyN (K : Act → World → Prop) : Exit → Act → World → Prop
  | .normal, a, w => K a w
  | _, _, _ => False
theorem onlyN_out {K : Act → World → Prop} : ¬ LetsOut (onlyN K) := fun ⟨_, _, h⟩ => h
/-- No operation is a defer statement. -/
def noDefer (ops : Array Oper) : Bool := ops.toList.all fun o => match o.op with
  | .defer _ => false
  | _ => true
theorem noDefer_spec (h : noDefer ops = true) {i : Nat} {o : Oper} (ho : ops[i]? = some o) : ∀ c, o.op ≠ .defer c := by
  intro c e
  have h1 := List.all_eq_true.1 h o (by simpa using Array.mem_of_getElem? ho)
  rw [e] at h1
  cases h1
theorem callsIn_round {l n : Nat} {f : FuncId} {args : Array Value} {w : World} {R : Ending → World → Prop} (h : Calls P f args w R) : CallsIn (Fence.wide.inRound l) n P f args w R := CallsIn.inRound l (callsIn_wide.2 h)
theorem rowsIn_round {l n : Nat} {row : String} {args : Array Value} {w : World} {R : Value → World → Prop} (h : Rows P row args w R) : RowsIn (Fence.wide.inRound l) n P row args w R := by
  intro c cs _
  obtain ⟨v, w', r, s⟩ := h c cs
  exact ⟨v, w', r, stepsIn_wide.2 s⟩
theorem wpOpIn_of_wpOp {l n i : Nat} {a : Act} {w : World} {K K1 K2 : Act → World → Prop} {Q : Exit → Act → World → Prop} (hd : noDefer ops = true) (hK : ∀ a w, K1 a w → K2 a w) (h : wpOp P ops (onlyN K) i K1 a w) :
    wpOpIn (Fence.wide.inRound l) n P ops Q i K2 a w := by
  unfold wpOp at h
  unfold wpOpIn
  cases ho : ops[i]? with
  | none => simp only [ho] at h ⊢; exact hK _ _ h
  | some o =>
    simp only [ho] at h ⊢
    by_cases hw : Region.wanted o (yielded ops a.tmps) = true
    · rw [if_pos hw] at h ⊢
      have h2 := h.resolve_right fun h' => onlyN_out h'.2
      refine ⟨fun _ _ => trivial, ?_⟩
      unfold Oper.wp at h2
      have e : o.semAt (Fence.wide.inRound l).round a.eval = execOp a.eval o := Oper.semAt_eq _ _ _ (noDefer_spec hd ho)
      rw [e]
      generalize (execOp a.eval o).run P w = r at *
      cases r with
      | halt x w' => cases x <;> simp only [Oper.upon] at h2 <;> exact h2.elim
      | ok x w' =>
        cases x <;> simp only [Oper.upon] at h2 <;> simp only [Oper.uponIn]
        case value v => exact hK _ _ h2
        case skip => exact hK _ _ h2
        case defer d => exact hK _ _ h2
        case enter f args =>
          refine ⟨fun h => by simp [Fence.wide] at h, callsIn_round (h2.mono ?_)⟩
          intro e' w'' he
          cases e' with
          | returned v => exact hK _ _ he
          | panicked ch => exact he.elim
          | outgrown => exact (onlyN_out he).elim
        case row row args =>
          exact ⟨fun h => by simp [Fence.wide] at h, rowsIn_round (h2.mono fun _ _ he => hK _ _ he)⟩
    · rw [if_neg hw] at h ⊢
      exact ⟨fun _ _ => trivial, hK _ _ h⟩
theorem wpAnyIn_of_wpAny {l n : Nat} {K : Act → World → Prop} {Q : Exit → Act → World → Prop} (hd : noDefer ops = true) (hK : ∀ a w, K a w → Q .normal a w) (f : Nat) :
    ∀ (listed : Array Bool) (a : Act) (w : World), wpAny P md ops (onlyN K) f listed a w → wpAnyIn (Fence.wide.inRound l) n P md ops Q f listed a w := by
  induction f with
  | zero => intro listed a w h; exact ⟨h.1, hK _ _ h.2⟩
  | succ f ih =>
    intro listed a w h
    exact ⟨fun h0 => hK _ _ (h.1 h0), fun i hi => wpOpIn_of_wpOp hd (fun a w => ih _ a w) (h.2 i hi)⟩
end
section
variable {P : Program} {C : World → Prop} {S : Type} {Cl : S → World → Prop} {K : Act → World → Prop} {Q : Exit → Act → World → Prop}
theorem region_stage_in {id r f : Nat} {a : Act} {w : World} {l : List Oper} (n : Nat) (s : S) (hm : P.follows .mixedOrders = true) (hd : noDefer l.toArray = true) (hB : stageB l.toArray n = true) (hC : ∀ s w, Cl s w → C w) (hst : ∀ s w w', Cl s w → Below w.heap.size w w' → Cl s w') (h0 : Cl s w.drew)
    (h : headS P l.toArray C (tailS P l.toArray Cl (onlyN (Q .normal)) (l.drop n) s) (l.take n) a) : (Code.region id l.toArray true).wpIn (Fence.wide.inRound r) f P Q a w := by
  simp only [stageB, Bool.and_eq_true, decide_eq_true_eq] at hB
  obtain ⟨⟨hsel, hn⟩, hlex⟩ := hB
  have hn' : n ≤ l.length := by simpa using hn
  have htl : (l.take n).length = n := by simp; omega
  have hdl : (l.drop n).length = l.toArray.size - n := by simp
  refine wpIn_region_any hm (wpAnyIn_of_wpAny (K := Q .normal) hd (fun _ _ h => h) _ _ _ _ ?_)
  have H := anyS_head (P := P) (C := C) (Cl := Cl) (Q := onlyN (Q .normal)) (md := .any) (ops := l.toArray) (g := l.toArray.size - n) (s := s) hsel n (fun listed a' hs K hK hk => by
    have := anyS_tail (P := P) (md := .any) (C := C) (ops := l.toArray) (l.drop n) n s listed a' (fun j => by simp [List.getElem?_drop]) (by rw [hdl]; exact hs) (by simpa using hK a' hk)
    rwa [hdl] at this) (tailS P l.toArray Cl (onlyN (Q .normal)) (l.drop n) s) (fun a' hk => by simpa using hk) (l.take n) 0 (Array.replicate l.toArray.size false) a (fun j hj => by
      have hj' : j < n := by rw [htl] at hj; exact hj
      simp [hj']) (by rw [htl]; omega) (by rw [htl]; exact hlex) h
  have K := wpAny_of_anyS hC hst _ s _ a w.drew h0 H
  rw [htl, show n + (l.toArray.size - n) = l.toArray.size by simp only [List.size_toArray]; omega] at K
  exact K
theorem region_box_in {id r f : Nat} {W : World} {a : Act} {l : List Oper} (n : Nat) (T : TypeId) (zs vs : List Value) (hm : P.follows .mixedOrders = true) (hd : noDefer l.toArray = true) (hB : stageB l.toArray n = true)
    (h : headS P l.toArray (fun w => ∃ z : Tail, w = more W z.X z.d) (tailS P l.toArray (boxCl W T zs vs) (onlyN (Q .normal)) (l.drop n) (0, 0)) (l.take n) a) : (Code.region id l.toArray true).wpIn (Fence.wide.inRound r) f P Q a W :=
  region_stage_in (S := Nat × Nat) (Cl := boxCl W T zs vs) n (0, 0) hm hd hB boxCl_ext boxCl_stays ⟨⟨#[], W.drawn + 1⟩, (more_none W _).symm⟩ h
/-- .. walked by hand, one condition on the world carried along. -/
theorem region_held_in {id r f : Nat} {ops : Array Oper} {a : Act} {w : World} {S : World → Prop} (hm : P.follows .mixedOrders = true) (hd : noDefer ops = true) (hS : S w.drew)
    (h : S w.drew → wpAnyH P .any ops (onlyN (Q .normal)) S ops.size (Array.replicate ops.size false) a w.drew) : (Code.region id ops true).wpIn (Fence.wide.inRound r) f P Q a w :=
  wpIn_region_any hm (wpAnyIn_of_wpAny (K := Q .normal) hd (fun _ _ h => h) _ _ _ _ (wpAny_of_held _ _ _ _ (h hS)))
end
/-- What left all old blocks alone kept what is no cells. -/
theorem others_of_below {W W' : World} (h : Below W.heap.size W W') : KeepsOthers W W' :=
  ⟨h.size, fun k o hk ho => by rw [h.block k (Array.getElem?_eq_some_iff.1 hk).1]; exact hk⟩
end Go.Proofs.Ytkdkdejgajcneaa
