/- FaceSteps, with Pairs, EdgeSet ahead of it. -/
import Derived.Test.YtpfmcobkfofbjaaEdges
import Derived.Test.YtpfmcobkfofbjaaAppInt
import Derived.Maps.AppendAt
import Derived.Maps.OwnSet
import Derived.DeepKeys4
namespace Go.Proofs.Ytpfmcobkfofbjaa
open Go Go.RowKit
/-- A slice of two integers in a block of its own kind. -/
def PairAt (w : World) (a : Option Addr) (p : Int × Int) : Prop := ∃ g, a = some ⟨g, 0, none⟩ ∧ w.heap[g]? = some (.cells #[.int .i64 p.1, .int .i64 p.2] 3 (0, 0))
def slices2 (A : Nat → Option Addr) (n : Nat) : List Value := (List.range n).map fun i => .slice (A i) 2 2
theorem slices2_succ (A : Nat → Option Addr) (n : Nat) : slices2 A (n + 1) = slices2 A n ++ [.slice (A n) 2 2] := by simp [slices2, List.range_succ]
theorem slices2_congr {A B : Nat → Option Addr} {n : Nat} (h : ∀ i, i < n → A i = B i) : slices2 A n = slices2 B n := by
  unfold slices2
  refine List.map_congr_left fun i hi => ?_
  rw [h i (List.mem_range.1 hi)]
def PairRow (w : World) (base : Nat) (v : Value) (L : List (Int × Int)) : Prop :=
  ∃ A : Nat → Option Addr, w.ownsRow base 57 1 v L.length (slices2 A L.length) ∧ ∀ i, i < L.length → PairAt w (A i) (L.getD i (0, 0))
theorem PairAt.grown {w w' : World} {a : Option Addr} {p : Int × Int} {row : Option Nat} (h : PairAt w a p) (hg : w.grownBy w' row) (hr : ∀ b, row = some b → ∃ c fz, w.heap[b]? = some (.cells c 57 fz)) : PairAt w' a p := by
  obtain ⟨g, rfl, hc⟩ := h
  refine ⟨g, rfl, ?_⟩
  rw [hg.block g (Array.getElem?_eq_some_iff.1 hc).1 (fun e => ?_)]
  · exact hc
  · obtain ⟨c, fz, he⟩ := hr g e.symm
    rw [hc] at he
    simp only [Option.some.injEq, Obj.cells.injEq] at he
    exact absurd he.2.1 (by decide)
theorem PairAt.below {w w' : World} {a : Option Addr} {p : Int × Int} (h : PairAt w a p) (hb : Below w.heap.size w w') : PairAt w' a p := by
  obtain ⟨g, rfl, hc⟩ := h
  exact ⟨g, rfl, by rw [hb.block g (Array.getElem?_eq_some_iff.1 hc).1]; exact hc⟩
theorem own_row {w : World} {base : Nat} {e : TypeId} {s : Nat} {v : Value} {n : Nat} {xs : List Value} (h : w.ownsRow base e s v n xs) : ∀ b, v.ownBlock = some b → base ≤ b ∧ ∃ c fz, w.heap[b]? = some (.cells c e fz) := by
  intro b hb
  rcases h.2 with ⟨rfl, _⟩ | ⟨g, cap, cur, rfl, hbg, hg, _⟩
  · simp [Value.ownBlock] at hb
  · simp only [Value.ownBlock, Option.some.injEq] at hb
    subst hb
    exact ⟨hbg, cur, _, hg⟩
theorem own_grown {w w' : World} {base : Nat} {e : TypeId} {s : Nat} {v : Value} {n : Nat} {xs : List Value} {row : Option Nat} (h : w.ownsRow base e s v n xs) (hg : w.grownBy w' row) (hr : ∀ b, row = some b → v.ownBlock ≠ some b) : w'.ownsRow base e s v n xs := by
  refine ⟨h.1, h.2.imp id ?_⟩
  rintro ⟨g, cap, cur, rfl, hb, hc, r⟩
  refine ⟨g, cap, cur, rfl, hb, ?_, r⟩
  rw [hg.block g (Array.getElem?_eq_some_iff.1 hc).1 (fun e => hr g e.symm rfl)]
  exact hc
theorem PairRow.grown {w w' : World} {base : Nat} {v : Value} {L : List (Int × Int)} {row : Option Nat} (h : PairRow w base v L) (hg : w.grownBy w' row) (h1 : ∀ b, row = some b → v.ownBlock ≠ some b) (h2 : ∀ b, row = some b → ∃ c fz, w.heap[b]? = some (.cells c 57 fz)) : PairRow w' base v L := by
  obtain ⟨A, ho, hp⟩ := h
  exact ⟨A, own_grown ho hg h1, fun i hi => (hp i hi).grown hg h2⟩
theorem grownBy_of_below {w w' : World} (hb : Below w.heap.size w w') : w.grownBy w' none := ⟨hb.os, hb.tape, hb.output, hb.size, fun i hi _ => hb.block i hi⟩
theorem PairRow.below {w w' : World} {base : Nat} {v : Value} {L : List (Int × Int)} (h : PairRow w base v L) (hb : Below w.heap.size w w') : PairRow w' base v L :=
  h.grown (grownBy_of_below hb) (fun _ e => by cases e) (fun _ e => by cases e)
theorem PairRow.lt {w : World} {base : Nat} {v : Value} {L : List (Int × Int)} (h : PairRow w base v L) : ∀ b, v.ownBlock = some b → base ≤ b ∧ b < w.heap.size := by
  obtain ⟨A, ho, _⟩ := h
  intro b hb
  obtain ⟨h1, c, fz, h2⟩ := own_row ho b hb
  exact ⟨h1, (Array.getElem?_eq_some_iff.1 h2).1⟩
theorem PairRow.nil {w : World} {base : Nat} {g : Nat} (hb : base ≤ g) (hg : w.heap[g]? = some (.cells #[] 57 (0, 0))) : PairRow w base (.slice (some ⟨g, 0, none⟩) 0 0) [] :=
  ⟨fun _ => none, ⟨rfl, .inr ⟨g, 0, #[], rfl, hb, hg, Nat.le_refl _, by decide, rfl, rfl⟩⟩, fun i hi => absurd hi (Nat.not_lt_zero _)⟩
theorem PairRow.form {w : World} {base : Nat} {v : Value} {L : List (Int × Int)} (h : PairRow w base v L) : ∃ a cap, v = .slice a L.length cap := by
  obtain ⟨A, ⟨_, ho⟩, _⟩ := h
  rcases ho with ⟨rfl, h0⟩ | ⟨g, cap, cur, rfl, _⟩
  · exact ⟨none, 0, by rw [h0]⟩
  · exact ⟨_, _, rfl⟩
/-- What is read at place i. -/
theorem PairRow.read {w : World} {base : Nat} {v : Value} {L : List (Int × Int)} (h : PairRow w base v L) {i : Nat} (hi : i < L.length) :
    ∃ g cap u, v = .slice (some ⟨g, 0, none⟩) L.length cap ∧ g < w.heap.size ∧ u < w.heap.size ∧ w.cell? ⟨g, i, none⟩ = some (.slice (some ⟨u, 0, none⟩) 2 2) ∧ w.cell? ⟨u, 0, none⟩ = some (.int .i64 (L.getD i (0, 0)).1) ∧ w.cell? ⟨u, 1, none⟩ = some (.int .i64 (L.getD i (0, 0)).2) ∧
      w.heap[u]? = some (.cells #[.int .i64 (L.getD i (0, 0)).1, .int .i64 (L.getD i (0, 0)).2] 3 (0, 0)) := by
  obtain ⟨A, ⟨hl, ho⟩, hp⟩ := h
  rcases ho with ⟨_, h0⟩ | ⟨g, cap, cur, rfl, hb, hg, hnc, hcm, hcs, ht⟩
  · omega
  · obtain ⟨u, hu, hc⟩ := hp i hi
    refine ⟨g, cap, u, rfl, (Array.getElem?_eq_some_iff.1 hg).1, (Array.getElem?_eq_some_iff.1 hc).1, ?_, ?_, ?_, hc⟩
    · rw [cell_of_row w g i cur _ (0, 0) hg]
      have h1 : (slices2 A L.length)[i]? = some (.slice (A i) 2 2) := by simp [slices2, hi]
      rw [← ht, List.getElem?_take, if_pos (by omega)] at h1
      rw [← hu]
      simpa using h1
    · rw [cell_of_row w u 0 _ _ (0, 0) hc]; rfl
    · rw [cell_of_row w u 1 _ _ (0, 0) hc]; rfl
theorem info_IntS : (Try.prog.info? 57).map (fun i => (i.zero, i.size, i.bytes)) = some (some (.slice none 0 0), 1, 24) := by kernel_rfl
theorem getD_snoc {α : Type} {L : List α} {x d : α} {i : Nat} : (L ++ [x]).getD i d = if i = L.length then x else L.getD i d := by
  rw [List.getD_eq_getElem?_getD, List.getD_eq_getElem?_getD, List.getElem?_append]
  split
  · rw [if_neg (by omega)]
  · split
    · subst_vars; simp
    · rw [List.getElem?_eq_none (by simp; omega), List.getElem?_eq_none (by omega)]
theorem wpList_append_pair (w : World) {ops : Array Oper} {rest : List Oper} {o : Oper} {a : Act} {Q : Exit → Act → World → Prop} (hgd : o.guard = none) (s x : Operand)
    (ho : o.op = .call { callee := .builtin .append, args := #[s, x], argTypes := #[24, 24] }) (base : Nat) (v : Value) (L : List (Int × Int)) (hs : a.eval s = v) (h : PairRow w base v L)
    (ad : Addr) (c : Nat) (hx : a.eval x = .slice (some ad) 1 c) (g : Nat) (hn : w.cell? ad = some (.slice (some ⟨g, 0, none⟩) 2 2)) (p : Int × Int) (hp : PairAt w (some ⟨g, 0, none⟩) p) (hl : L.length ≤ 1048576) (hbase : base ≤ w.heap.size)
    (hK : ∀ v' w', PairRow w' base v' (L ++ [p]) → w.grownBy w' v.ownBlock → (v'.ownBlock = v.ownBlock ∨ v'.ownBlock = some w.heap.size) → (∀ b, v.ownBlock = some b → ∃ c fz, w.heap[b]? = some (.cells c 57 fz)) → wpList Try.prog ops Q rest (a.put o.dst v') w') :
    wpList Try.prog ops Q (o :: rest) a w := by
  obtain ⟨i0, hi, hz0, hz1, hz2⟩ := info_parts info_IntS
  obtain ⟨A, hown, hpa⟩ := h
  have hrow := own_row hown
  refine wpList_append_own_at w hgd s x 24 ho base 57 i0 _ 1 24 Try.underlying24 hi hz0 hz1 hz2 rfl (by decide) v L.length _ hs hown ad 1 c [.slice (some ⟨g, 0, none⟩) 2 2] hx rfl ?_ ?_ (by simp only [maxLen]; omega) (by omega) hbase ?_
  · intro j u hu
    match j, hu with
    | 0, hu =>
      obtain rfl : Value.slice (some ⟨g, 0, none⟩) 2 2 = u := by simpa using hu
      simpa [Addr.add] using hn
    | j + 1, hu => simp at hu
  · intro u hu
    obtain rfl : u = Value.slice (some ⟨g, 0, none⟩) 2 2 := by simpa using hu
    rfl
  intro v' w' ho' hg hnil hloc
  refine hK v' w' ⟨upd A L.length (some ⟨g, 0, none⟩), ?_, fun i hi' => ?_⟩ hg hloc (fun b hb => (hrow b hb).2)
  · rw [List.length_append, List.length_singleton, slices2_succ, upd_self, slices2_congr (fun i hi => upd_lt hi)]
    exact ho'
  · rw [List.length_append, List.length_singleton] at hi'
    rw [getD_snoc]
    by_cases e : i = L.length
    · subst e
      rw [if_pos rfl, upd_self]
      exact hp.grown hg (fun b hb => (hrow b hb).2)
    · rw [if_neg e, upd_lt (by omega)]
      exact (hpa i (by omega)).grown hg (fun b hb => (hrow b hb).2)
end Go.Proofs.Ytpfmcobkfofbjaa
namespace Go.Proofs.Ytpfmcobkfofbjaa
open Go Go.RowKit Go.Maps
theorem plainElem_bool_inv {H : Type} {P : Program} {e : TypeId} {v : Value} {z : DataW H × List MemPlace} (he : P.underlying e = some .bool) (h : plainElem P e v = some z) : ∃ b, v = .bool b ∧ z = (.lit (.bool b), []) := by
  unfold plainElem at h
  rw [he] at h
  cases v <;> simp at h
  obtain rfl := h
  exact ⟨_, rfl, rfl⟩
theorem laidOut : laidOutB Try.prog = true := by kernel_rfl
theorem edge_row : (55 : TypeId) < Try.prog.types.size := of_decide_eq_true (by kernel_rfl)
set_option maxRecDepth 100000 in
theorem edge_wide : (match Try.prog.underlying 55 with | some (.array _ _) | some (.struct _) => true | _ => false) = true := by kernel_rfl
set_option maxRecDepth 100000 in
theorem edge_law : Keyed Try.prog 55 := Keyed.of_law (deep_law_laid laidOut (m := 2) (by omega) edge_row (by kernel_rfl) (by rw [Try.underlying55]))
theorem edge_cells : Try.prog.cellsOf 55 = 2 := by kernel_rfl
theorem int_cells : Try.prog.cellsOf 3 = 1 := by kernel_rfl
@[reducible] def edgeV (p : Int × Int) : Value := .agg #[.int .i64 p.1, .int .i64 p.2]
def wfE (p : Int × Int) : Prop := (Lit.int .i64 p.1).wf = true ∧ (Lit.int .i64 p.2).wf = true
set_option maxRecDepth 100000 in
set_option maxHeartbeats 1000000 in
theorem edge_key {p : Int × Int} (h : wfE p) : ∃ kl, keyOf Try.prog 55 (edgeV p) = some kl := by
  have e1 : Try.prog.keyType 55 = true := by kernel_rfl
  have e2 : (edgeV p).formed Try.prog 55 = true := by simp [Value.formed, Try.underlying55, edge_cells]
  obtain ⟨m, hm⟩ : ∃ m, Try.prog.types.size + 1 = m + 2 := by
    have h0 : 0 < Try.prog.types.size := Nat.lt_of_le_of_lt (Nat.zero_le _) edge_row
    revert h0
    generalize Try.prog.types.size = s
    intro h0
    exact ⟨s - 1, by omega⟩
  obtain ⟨h1, h2⟩ := h
  have i1 : ∀ d x, (Lit.int .i64 x).wf = true → Try.prog.keyLits (d + 1) 3 [.int .i64 x] = some [.int .i64 x] := fun d x hx => by
    unfold Program.keyLits
    simp only [Try.underlying3, hx, and_self, if_true]
  have i2 : Try.prog.keyLits (m + 2) 55 [.int .i64 p.1, .int .i64 p.2] = some [.int .i64 p.1, .int .i64 p.2] := by
    unfold Program.keyLits
    simp [Try.underlying55, edge_cells, int_cells, i1 m _ h1, i1 m _ h2]
  refine ⟨.string (keyBytes [.int .i64 p.1, .int .i64 p.2]), ?_⟩
  unfold keyOf
  simp only [Try.underlying55, e1, e2, Bool.and_self, if_true]
  rw [hm, show (edgeV p).cells.toList = [.int .i64 p.1, .int .i64 p.2] from rfl, i2]
  rfl
theorem edge_inj {p q : Int × Int} {kl : Lit} (h1 : keyOf Try.prog 55 (edgeV p) = some kl) (h2 : keyOf Try.prog 55 (edgeV q) = some kl) : p = q := by
  have := edge_law.inj h1 h2
  simp only [edgeV, Value.agg.injEq, Array.mk.injEq, List.cons.injEq, Value.int.injEq, true_and, and_true] at this
  exact Prod.ext this.1 this.2
/-- Block b is a map of at most n edges, true just at those of L. -/
def EdgeSet (w : World) (b n : Nat) (L : List (Int × Int)) : Prop :=
  ∃ D : DataW Unit, w.ownsMap Try.prog 55 (plainElem Try.prog 4) b n D ∧ ∀ p kl, keyOf Try.prog 55 (edgeV p) = some kl → D.atKey kl (.lit (.bool false)) = .lit (.bool (decide (p ∈ L)))
theorem zero_bool (w : World) : (zeroValue 4).run Try.prog w = .ok (.bool false) w := by kernel_rfl
theorem EdgeSet.made (w : World) : EdgeSet (w.alloc (.map #[] 0)) w.heap.size 0 [] :=
  ⟨.map [], World.ownsMap_made w _ _ _, fun p kl _ => by simp [DataW.atKey]⟩
theorem EdgeSet.kept {w w' : World} {b n : Nat} {L : List (Int × Int)} (h : EdgeSet w b n L) (hb : Below w.heap.size w w') : EdgeSet w' b n L := by
  obtain ⟨D, h1, h2⟩ := h
  exact ⟨D, h1.kept (row := none) ⟨hb.os, hb.tape, hb.output, hb.size, fun i hi _ => hb.block i hi⟩ (by simp), h2⟩
theorem EdgeSet.lt {w : World} {b n : Nat} {L : List (Int × Int)} (h : EdgeSet w b n L) : b < w.heap.size := by
  obtain ⟨D, h1, _⟩ := h
  exact h1.lt
theorem EdgeSet.look {w : World} {b n : Nat} {L : List (Int × Int)} (h : EdgeSet w b n L) {p : Int × Int} (hp : wfE p) :
    (Instr.lookup 66 (.map (some b)) (edgeV p) false).run Try.prog w = .ok (.bool (decide (p ∈ L))) w := by
  obtain ⟨D, h1, h2⟩ := h
  obtain ⟨kl, hk⟩ := edge_key hp
  obtain ⟨v, ps, hr, hv⟩ := h1.lookup edge_law Try.underlying66 (zero_bool w) (plainElem_bool Try.underlying4 false) hk
  obtain ⟨b', rfl, hz⟩ := plainElem_bool_inv Try.underlying4 hv
  rw [h2 p kl hk] at hz
  simp only [Prod.mk.injEq, DataW.lit.injEq, Lit.bool.injEq] at hz
  rw [hr, hz.1]
theorem EdgeSet.store {w : World} {b n : Nat} {L : List (Int × Int)} (h : EdgeSet w b n L) (hn : n < maxLen) {p : Int × Int} (hp : wfE p) :
    ∃ w', (Instr.mapUpdate 66 (.map (some b)) (edgeV p) (.bool true)).run Try.prog w = .ok () w' ∧ EdgeSet w' b (n + 1) (L ++ [p]) ∧ Chg b (b + 1) w w' := by
  obtain ⟨D, h1, h2⟩ := h
  obtain ⟨kl, hk⟩ := edge_key hp
  obtain ⟨w', hr, ho, hg⟩ := h1.update edge_law Try.underlying66 hn hk (plainElem_bool Try.underlying4 true)
  refine ⟨w', hr, ⟨_, ho, fun q kq hq => ?_⟩, ⟨hg.os, hg.tape, hg.output, hg.size, fun k hk2 ho2 => hg.block k hk2 (fun e => by cases e; omega)⟩⟩
  by_cases e : q = p
  · subst e
    have : kq = kl := by rw [hk] at hq; exact (Option.some.inj hq).symm
    subst this
    rw [Maps.atKey_put_same h1.isMap (edge_law.key hk)]
    simp
  · have hne : kq ≠ kl := fun e2 => e (edge_inj hq (e2 ▸ hk))
    rw [Maps.atKey_put_other hne, h2 q kq hq]
    simp [e]
theorem wpList_look_edge (w : World) {ops : Array Oper} {rest : List Oper} {o : Oper} {a : Act} {Q : Exit → Act → World → Prop} (hg : o.guard = none) (m x : Operand) (hop : o.op = Op.lookup 66 m x false)
    (b n : Nat) (L : List (Int × Int)) (hm : a.eval m = .map (some b)) (h : EdgeSet w b n L) (p : Int × Int) (hp : wfE p) (hx : a.eval x = edgeV p)
    (hK : wpList Try.prog ops Q rest (a.put o.dst (.bool (decide (p ∈ L)))) w) : wpList Try.prog ops Q (o :: rest) a w := by
  refine wpList_plain hg fun K' hK' => ?_
  unfold Oper.wp
  simp [execOp, hop, hm, hx, h.look hp, Result.andThen]
  exact hK' _ _ hK
theorem wpList_store_edge (w : World) {ops : Array Oper} {rest : List Oper} {o : Oper} {a : Act} {Q : Exit → Act → World → Prop} (hg : o.guard = none) (m x v : Operand) (hop : o.op = Op.mapUpdate 66 m x v)
    (b n : Nat) (L : List (Int × Int)) (hm : a.eval m = .map (some b)) (h : EdgeSet w b n L) (hn : n < maxLen) (p : Int × Int) (hp : wfE p) (hx : a.eval x = edgeV p) (hv : a.eval v = .bool true)
    (hK : ∀ w', EdgeSet w' b (n + 1) (L ++ [p]) → Chg b (b + 1) w w' → wpList Try.prog ops Q rest (a.put o.dst undef) w') : wpList Try.prog ops Q (o :: rest) a w := by
  refine wpList_plain hg fun K' hK' => ?_
  obtain ⟨w', hrun, r1, r2⟩ := h.store hn hp
  unfold Oper.wp
  simp [execOp, hop, hm, hx, hv, hrun, Result.andThen]
  exact hK' _ _ (hK w' r1 r2)
end Go.Proofs.Ytpfmcobkfofbjaa
namespace Go.Proofs.Ytpfmcobkfofbjaa
open Go Go.RowKit
def edgeAt (L : List (Int × Int)) (i : Nat) : List Value := [.int .i64 (L.getD i (0, 0)).1, .int .i64 (L.getD i (0, 0)).2]
def edgeVals (L : List (Int × Int)) : List Value := flat 2 L.length (edgeAt L)
theorem edgeVals_snoc (L : List (Int × Int)) (p : Int × Int) : edgeVals (L ++ [p]) = edgeVals L ++ [.int .i64 p.1, .int .i64 p.2] := by
  unfold edgeVals
  rw [List.length_append, List.length_singleton, flat_succ]
  have h1 : flat 2 L.length (edgeAt (L ++ [p])) = flat 2 L.length (edgeAt L) := flat_congr fun i hi => by
    simp only [edgeAt, getD_snoc, if_neg (Nat.ne_of_lt hi)]
  rw [h1]
  simp [edgeAt]
/-- What stands behind place k of a face of four. -/
structure StepF (f : List Int) (k q : Nat) : Prop where
  a : IntKind.i64.wrap ((k : Int) + 1) = (k : Int) + 1
  b : ((k : Int) + 1).tmod 4 = (q : Int)
  c : IntKind.i64.wrap (q : Int) = (q : Int)
  d : q < 4
  e : stepAt f k = (f.getD k 0, f.getD q 0)
theorem stepF {f : List Int} (hf : f.length = 4) {k : Nat} (hk : k < 4) : StepF f k ((k + 1) % 4) := by
  refine ⟨IntWalk.i64_in _ (by omega), ?_, IntWalk.i64_in _ (by omega), Nat.mod_lt _ (by omega), by rw [stepAt, hf]⟩
  rw [Int.tmod_eq_emod_of_nonneg (by omega)]; omega
theorem info_Edge : (Try.prog.info? 55).map (fun i => (i.zero, i.size, i.bytes)) = some (some (.agg #[.int .i64 0, .int .i64 0]), 2, 16) := by kernel_rfl
set_option maxRecDepth 100000 in
set_option maxHeartbeats 1000000 in
theorem faceEdges_c (a : Option Addr) (cap : Nat) (f : List Int) (HN : Hid (f.length = 4)) (w : World) (hr : Sl w a 1 4 (intAt f)) :
    Calls Try.prog 31 #[.slice a 4 cap] w (Gives w 2 4 (edgeAt (stepsOf f))) := by
  obtain ⟨i0, hi, hz0, hz1, hz2⟩ := info_parts info_Edge
  have HR := Lib.hid hr
  clear hr
  go_enter Try.func31, Try.ntmps31
  go_wp2
  go_loopw [3, 9] (fun out i wr => ∃ (k d : Nat) (X : Array Obj), k ≤ 4 ∧ i = .int .i64 k ∧ wr = more w X d ∧ (more w X d).ownsRow w.heap.size 55 2 out k (edgeVals (stepsTo f k))) (fun _ i _ => 4 - (intOf i).toNat)
  case atStart =>
    obtain ⟨X, d, e⟩ := Below.ext (w := w) (w' := w.alloc (.cells #[] 55)) (by repeat (first | exact Below.refl _ _ | refine Below.drew ?_ | refine Below.alloc ?_ (by first | exact Nat.le_refl _ | (simp; done) | (simp; omega) | omega) _ | refine Below.more ?_ (by first | exact Nat.le_refl _ | (simp; done) | (simp; omega) | omega) _ _ | refine Below.setCell ?_ (by first | exact Nat.le_refl _ | (simp; done) | (simp; omega) | omega) _ | assumption))
    refine ⟨0, d, X, Nat.zero_le _, rfl, e, ?_⟩
    rw [← e]
    exact World.ownsRow_made (size := 2) w #[] 0 (Nat.le_refl _) (by decide) (by simp)
  case round =>
    obtain ⟨k, d, X, hk, rfl, rfl, hown⟩ := hrel
    by_cases hlt : k < 4
    · have hk1 : (k : Int) < 4 := by omega
      have SF := Lib.hid (stepF HN.out hlt)
      obtain ⟨t1, t2, t3, t4, _⟩ := stepF HN.out hlt
      obtain ⟨b, o, rfl, hb, hc⟩ := HR.out (by omega)
      have HC := Lib.hid (show ∀ j, j < 4 → w.cell? ⟨b, o + j, none⟩ = some (.int .i64 (f.getD j 0)) from fun j hj => by
        have := hc j hj 0 (by omega)
        rw [Nat.mul_one, Nat.add_zero] at this
        rw [this]; simp [intAt])
      clear hc
      generalize (k + 1) % 4 = q at *
      have t5 : (q : Int) < 4 := by omega
      have c0 := HC.out k hlt
      have c1 := HC.out q t4
      have HST := Lib.hid (show edgeVals (stepsTo f (k + 1)) = edgeVals (stepsTo f k) ++ [.int .i64 (f.getD k 0), .int .i64 (f.getD q 0)] by rw [stepsTo_succ, edgeVals_snoc, SF.out.e])
      generalize f.getD k 0 = x at *
      generalize f.getD q 0 = y at *
      generalize edgeVals (stepsTo f k) = xs at *
      go_wp2_with (at_builtin; go_loud (refine wpList_append_more w ?b0 rfl _ _ 50 rfl 55 i0 _ 2 16 Try.underlying50 hi hz0 hz1 hz2 rfl (by decide) _ _ _ rfl (hown.alloc _) _ 1 1 [.int .i64 x, .int .i64 y] rfl rfl ?b2 ?b3 ?b4 ?b5 ?_))
      case b0 => exact (by repeat (first | exact Below.refl _ _ | refine Below.drew ?_ | refine Below.alloc ?_ (by first | exact Nat.le_refl _ | (simp; done) | (simp; omega) | omega) _ | refine Below.more ?_ (by first | exact Nat.le_refl _ | (simp; done) | (simp; omega) | omega) _ _ | refine Below.setCell ?_ (by first | exact Nat.le_refl _ | (simp; done) | (simp; omega) | omega) _ | assumption))
      case b2 =>
        intro j u hu
        match j, hu with
        | 0, hu =>
          obtain rfl : Value.int .i64 x = u := by simpa using hu
          simp [go_sem]
        | 1, hu =>
          obtain rfl : Value.int .i64 y = u := by simpa using hu
          simp [go_sem]
        | j + 2, hu => simp at hu
      case b3 =>
        intro u hu
        simp only [List.mem_cons, List.not_mem_nil, or_false] at hu
        rcases hu with rfl | rfl <;> rfl
      case b4 => simp only [maxLen]; omega
      case b5 => omega
      intro v' X' d' hown' hnn
      go_wp2
      refine ⟨⟨k + 1, d', X', by omega, rfl, rfl, ?_⟩, by simp only [intOf]; omega⟩
      rw [HST.out]
      exact hown'
    · have hk1 : ¬ (k : Int) < 4 := by omega
      go_wp2
      go_ret
      obtain rfl : k = 4 := by omega
      have e : edgeVals (stepsTo f 4) = flat 2 4 (edgeAt (stepsOf f)) := by rw [edgeVals, stepsTo_len, stepsOf, HN.out]
      rw [e] at hown
      exact gives_of_flat hown (fun _ _ => rfl) (by repeat (first | exact Below.refl _ _ | refine Below.drew ?_ | refine Below.alloc ?_ (by first | exact Nat.le_refl _ | (simp; done) | (simp; omega) | omega) _ | refine Below.more ?_ (by first | exact Nat.le_refl _ | (simp; done) | (simp; omega) | omega) _ _ | refine Below.setCell ?_ (by first | exact Nat.le_refl _ | (simp; done) | (simp; omega) | omega) _ | assumption))
end Go.Proofs.Ytpfmcobkfofbjaa
