/- A set of edges that lies in a map from edges to bools. -/
import Derived.Test.YtbmhehjllchpoaaGreatEdges
import Derived.Maps.OwnSet
import Derived.DeepKeys4
namespace Go.Proofs.YtbmhehjllchpoaaGreat
open Go Go.RowKit Go.Maps
theorem plainElem_bool_inv {H : Type} {P : Program} {e : TypeId} {v : Value} {z : DataW H × List MemPlace} (he : P.underlying e = some .bool) (h : plainElem P e v = some z) : ∃ b, v = .bool b ∧ z = (.lit (.bool b), []) := by
  unfold plainElem at h
  rw [he] at h
  cases v <;> simp at h
  obtain rfl := h
  exact ⟨_, rfl, rfl⟩
theorem laidOut : laidOutB Tryz.prog = true := by kernel_rfl
theorem edge_row : (63 : TypeId) < Tryz.prog.types.size := of_decide_eq_true (by kernel_rfl)
set_option maxRecDepth 100000 in
theorem edge_wide : (match Tryz.prog.underlying 63 with | some (.array _ _) | some (.struct _) => true | _ => false) = true := by kernel_rfl
set_option maxRecDepth 100000 in
theorem edge_law : Keyed Tryz.prog 63 := Keyed.of_law (deep_law_laid laidOut (m := 2) (by omega) edge_row (by kernel_rfl) (by rw [Tryz.underlying63]))
theorem edge_cells : Tryz.prog.cellsOf 63 = 2 := by kernel_rfl
theorem int_cells : Tryz.prog.cellsOf 3 = 1 := by kernel_rfl
@[reducible] def edgeV (p : Int × Int) : Value := .agg #[.int .i64 p.1, .int .i64 p.2]
def wfE (p : Int × Int) : Prop := (Lit.int .i64 p.1).wf = true ∧ (Lit.int .i64 p.2).wf = true
set_option maxRecDepth 100000 in
set_option maxHeartbeats 1000000 in
theorem edge_key {p : Int × Int} (h : wfE p) : ∃ kl, keyOf Tryz.prog 63 (edgeV p) = some kl := by
  have e1 : Tryz.prog.keyType 63 = true := by kernel_rfl
  have e2 : (edgeV p).formed Tryz.prog 63 = true := by simp [Value.formed, Tryz.underlying63, edge_cells]
  obtain ⟨m, hm⟩ : ∃ m, Tryz.prog.types.size + 1 = m + 2 := by
    have h0 : 0 < Tryz.prog.types.size := Nat.lt_of_le_of_lt (Nat.zero_le _) edge_row
    revert h0
    generalize Tryz.prog.types.size = s
    intro h0
    exact ⟨s - 1, by omega⟩
  obtain ⟨h1, h2⟩ := h
  have i1 : ∀ d x, (Lit.int .i64 x).wf = true → Tryz.prog.keyLits (d + 1) 3 [.int .i64 x] = some [.int .i64 x] := fun d x hx => by
    unfold Program.keyLits
    simp only [Tryz.underlying3, hx, and_self, if_true]
  have i2 : Tryz.prog.keyLits (m + 2) 63 [.int .i64 p.1, .int .i64 p.2] = some [.int .i64 p.1, .int .i64 p.2] := by
    unfold Program.keyLits
    simp [Tryz.underlying63, edge_cells, int_cells, i1 m _ h1, i1 m _ h2]
  refine ⟨.string (keyBytes [.int .i64 p.1, .int .i64 p.2]), ?_⟩
  unfold keyOf
  simp only [Tryz.underlying63, e1, e2, Bool.and_self, if_true]
  rw [hm, show (edgeV p).cells.toList = [.int .i64 p.1, .int .i64 p.2] from rfl, i2]
  rfl
theorem edge_inj {p q : Int × Int} {kl : Lit} (h1 : keyOf Tryz.prog 63 (edgeV p) = some kl) (h2 : keyOf Tryz.prog 63 (edgeV q) = some kl) : p = q := by
  have := edge_law.inj h1 h2
  simp only [edgeV, Value.agg.injEq, Array.mk.injEq, List.cons.injEq, Value.int.injEq, true_and, and_true] at this
  exact Prod.ext this.1 this.2
/-- Block b is a map of at most n edges, true just at those of L. -/
def EdgeSet (w : World) (b n : Nat) (L : List (Int × Int)) : Prop :=
  ∃ D : DataW Unit, w.ownsMap Tryz.prog 63 (plainElem Tryz.prog 4) b n D ∧ ∀ p kl, keyOf Tryz.prog 63 (edgeV p) = some kl → D.atKey kl (.lit (.bool false)) = .lit (.bool (decide (p ∈ L)))
theorem zero_bool (w : World) : (zeroValue 4).run Tryz.prog w = .ok (.bool false) w := by kernel_rfl
theorem EdgeSet.made (w : World) : EdgeSet (w.alloc (.map #[] 0)) w.heap.size 0 [] :=
  ⟨.map [], World.ownsMap_made w _ _ _, fun p kl _ => by simp [DataW.atKey]⟩
theorem EdgeSet.kept {w w' : World} {b n : Nat} {L : List (Int × Int)} (h : EdgeSet w b n L) (hb : Below w.heap.size w w') : EdgeSet w' b n L := by
  obtain ⟨D, h1, h2⟩ := h
  exact ⟨D, h1.kept (row := none) ⟨hb.os, hb.tape, hb.output, hb.size, fun i hi _ => hb.block i hi⟩ (by simp), h2⟩
theorem EdgeSet.lt {w : World} {b n : Nat} {L : List (Int × Int)} (h : EdgeSet w b n L) : b < w.heap.size := by
  obtain ⟨D, h1, _⟩ := h
  exact h1.lt
theorem EdgeSet.look {w : World} {b n : Nat} {L : List (Int × Int)} (h : EdgeSet w b n L) {p : Int × Int} (hp : wfE p) :
    (Instr.lookup 59 (.map (some b)) (edgeV p) false).run Tryz.prog w = .ok (.bool (decide (p ∈ L))) w := by
  obtain ⟨D, h1, h2⟩ := h
  obtain ⟨kl, hk⟩ := edge_key hp
  obtain ⟨v, ps, hr, hv⟩ := h1.lookup edge_law Tryz.underlying59 (zero_bool w) (plainElem_bool Tryz.underlying4 false) hk
  obtain ⟨b', rfl, hz⟩ := plainElem_bool_inv Tryz.underlying4 hv
  rw [h2 p kl hk] at hz
  simp only [Prod.mk.injEq, DataW.lit.injEq, Lit.bool.injEq] at hz
  rw [hr, hz.1]
theorem EdgeSet.store {w : World} {b n : Nat} {L : List (Int × Int)} (h : EdgeSet w b n L) (hn : n < maxLen) {p : Int × Int} (hp : wfE p) :
    ∃ w', (Instr.mapUpdate 59 (.map (some b)) (edgeV p) (.bool true)).run Tryz.prog w = .ok () w' ∧ EdgeSet w' b (n + 1) (L ++ [p]) ∧ Chg b (b + 1) w w' := by
  obtain ⟨D, h1, h2⟩ := h
  obtain ⟨kl, hk⟩ := edge_key hp
  obtain ⟨w', hr, ho, hg⟩ := h1.update edge_law Tryz.underlying59 hn hk (plainElem_bool Tryz.underlying4 true)
  refine ⟨w', hr, ⟨_, ho, fun q kq hq => ?_⟩, ⟨hg.os, hg.tape, hg.output, hg.size, fun k hk2 ho2 => hg.block k hk2 (fun e => by cases e; omega)⟩⟩
  by_cases e : q = p
  · subst e
    have : kq = kl := by rw [hk] at hq; exact (Option.some.inj hq).symm
    subst this
    rw [Maps.atKey_put_same h1.isMap (edge_law.key hk)]
    simp
  · have hne : kq ≠ kl := fun e2 => e (edge_inj hq (e2 ▸ hk))
    rw [Maps.atKey_put_other hne, h2 q kq hq]
    simp [e]
theorem wpList_look_edge (w : World) {ops : Array Oper} {rest : List Oper} {o : Oper} {a : Act} {Q : Exit → Act → World → Prop} (hg : o.guard = none) (m x : Operand) (hop : o.op = Op.lookup 59 m x false)
    (b n : Nat) (L : List (Int × Int)) (hm : a.eval m = .map (some b)) (h : EdgeSet w b n L) (p : Int × Int) (hp : wfE p) (hx : a.eval x = edgeV p)
    (hK : wpList Tryz.prog ops Q rest (a.put o.dst (.bool (decide (p ∈ L)))) w) : wpList Tryz.prog ops Q (o :: rest) a w := by
  refine wpList_plain hg fun K' hK' => ?_
  unfold Oper.wp
  simp [execOp, hop, hm, hx, h.look hp, Result.andThen]
  exact hK' _ _ hK
theorem wpList_store_edge (w : World) {ops : Array Oper} {rest : List Oper} {o : Oper} {a : Act} {Q : Exit → Act → World → Prop} (hg : o.guard = none) (m x v : Operand) (hop : o.op = Op.mapUpdate 59 m x v)
    (b n : Nat) (L : List (Int × Int)) (hm : a.eval m = .map (some b)) (h : EdgeSet w b n L) (hn : n < maxLen) (p : Int × Int) (hp : wfE p) (hx : a.eval x = edgeV p) (hv : a.eval v = .bool true)
    (hK : ∀ w', EdgeSet w' b (n + 1) (L ++ [p]) → Chg b (b + 1) w w' → wpList Tryz.prog ops Q rest (a.put o.dst undef) w') : wpList Tryz.prog ops Q (o :: rest) a w := by
  refine wpList_plain hg fun K' hK' => ?_
  obtain ⟨w', hrun, r1, r2⟩ := h.store hn hp
  unfold Oper.wp
  simp [execOp, hop, hm, hx, hv, hrun, Result.andThen]
  exact hK' _ _ (hK w' r1 r2)
end Go.Proofs.YtbmhehjllchpoaaGreat
