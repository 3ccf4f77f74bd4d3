/- Rows of pairs of integers: slices of slices of two integers, of one's own. -/
import Derived.Test.YtbmhehjllchpoaaGreatEdges
import Derived.Test.YtbmhehjllchpoaaGreatAppend
import Derived.Maps.AppendAt
namespace Go.Proofs.YtbmhehjllchpoaaGreat
open Go Go.RowKit
/-- A slice of two integers in a block of its own kind. -/
def PairAt (w : World) (a : Option Addr) (p : Int × Int) : Prop := ∃ g, a = some ⟨g, 0, none⟩ ∧ w.heap[g]? = some (.cells #[.int .i64 p.1, .int .i64 p.2] 3 (0, 0))
def slices2 (A : Nat → Option Addr) (n : Nat) : List Value := (List.range n).map fun i => .slice (A i) 2 2
theorem slices2_succ (A : Nat → Option Addr) (n : Nat) : slices2 A (n + 1) = slices2 A n ++ [.slice (A n) 2 2] := by simp [slices2, List.range_succ]
theorem slices2_congr {A B : Nat → Option Addr} {n : Nat} (h : ∀ i, i < n → A i = B i) : slices2 A n = slices2 B n := by
  unfold slices2
  refine List.map_congr_left fun i hi => ?_
  rw [h i (List.mem_range.1 hi)]
def PairRow (w : World) (base : Nat) (v : Value) (L : List (Int × Int)) : Prop :=
  ∃ A : Nat → Option Addr, w.ownsRow base 41 1 v L.length (slices2 A L.length) ∧ ∀ i, i < L.length → PairAt w (A i) (L.getD i (0, 0))
theorem PairAt.grown {w w' : World} {a : Option Addr} {p : Int × Int} {row : Option Nat} (h : PairAt w a p) (hg : w.grownBy w' row) (hr : ∀ b, row = some b → ∃ c fz, w.heap[b]? = some (.cells c 41 fz)) : PairAt w' a p := by
  obtain ⟨g, rfl, hc⟩ := h
  refine ⟨g, rfl, ?_⟩
  rw [hg.block g (Array.getElem?_eq_some_iff.1 hc).1 (fun e => ?_)]
  · exact hc
  · obtain ⟨c, fz, he⟩ := hr g e.symm
    rw [hc] at he
    simp only [Option.some.injEq, Obj.cells.injEq] at he
    exact absurd he.2.1 (by decide)
theorem PairAt.below {w w' : World} {a : Option Addr} {p : Int × Int} (h : PairAt w a p) (hb : Below w.heap.size w w') : PairAt w' a p := by
  obtain ⟨g, rfl, hc⟩ := h
  exact ⟨g, rfl, by rw [hb.block g (Array.getElem?_eq_some_iff.1 hc).1]; exact hc⟩
theorem own_row {w : World} {base : Nat} {e : TypeId} {s : Nat} {v : Value} {n : Nat} {xs : List Value} (h : w.ownsRow base e s v n xs) : ∀ b, v.ownBlock = some b → base ≤ b ∧ ∃ c fz, w.heap[b]? = some (.cells c e fz) := by
  intro b hb
  rcases h.2 with ⟨rfl, _⟩ | ⟨g, cap, cur, rfl, hbg, hg, _⟩
  · simp [Value.ownBlock] at hb
  · simp only [Value.ownBlock, Option.some.injEq] at hb
    subst hb
    exact ⟨hbg, cur, _, hg⟩
theorem own_grown {w w' : World} {base : Nat} {e : TypeId} {s : Nat} {v : Value} {n : Nat} {xs : List Value} {row : Option Nat} (h : w.ownsRow base e s v n xs) (hg : w.grownBy w' row) (hr : ∀ b, row = some b → v.ownBlock ≠ some b) : w'.ownsRow base e s v n xs := by
  refine ⟨h.1, h.2.imp id ?_⟩
  rintro ⟨g, cap, cur, rfl, hb, hc, r⟩
  refine ⟨g, cap, cur, rfl, hb, ?_, r⟩
  rw [hg.block g (Array.getElem?_eq_some_iff.1 hc).1 (fun e => hr g e.symm rfl)]
  exact hc
theorem PairRow.grown {w w' : World} {base : Nat} {v : Value} {L : List (Int × Int)} {row : Option Nat} (h : PairRow w base v L) (hg : w.grownBy w' row) (h1 : ∀ b, row = some b → v.ownBlock ≠ some b) (h2 : ∀ b, row = some b → ∃ c fz, w.heap[b]? = some (.cells c 41 fz)) : PairRow w' base v L := by
  obtain ⟨A, ho, hp⟩ := h
  exact ⟨A, own_grown ho hg h1, fun i hi => (hp i hi).grown hg h2⟩
theorem grownBy_of_below {w w' : World} (hb : Below w.heap.size w w') : w.grownBy w' none := ⟨hb.os, hb.tape, hb.output, hb.size, fun i hi _ => hb.block i hi⟩
theorem PairRow.below {w w' : World} {base : Nat} {v : Value} {L : List (Int × Int)} (h : PairRow w base v L) (hb : Below w.heap.size w w') : PairRow w' base v L :=
  h.grown (grownBy_of_below hb) (fun _ e => by cases e) (fun _ e => by cases e)
theorem PairRow.lt {w : World} {base : Nat} {v : Value} {L : List (Int × Int)} (h : PairRow w base v L) : ∀ b, v.ownBlock = some b → base ≤ b ∧ b < w.heap.size := by
  obtain ⟨A, ho, _⟩ := h
  intro b hb
  obtain ⟨h1, c, fz, h2⟩ := own_row ho b hb
  exact ⟨h1, (Array.getElem?_eq_some_iff.1 h2).1⟩
theorem PairRow.nil {w : World} {base : Nat} {g : Nat} (hb : base ≤ g) (hg : w.heap[g]? = some (.cells #[] 41 (0, 0))) : PairRow w base (.slice (some ⟨g, 0, none⟩) 0 0) [] :=
  ⟨fun _ => none, ⟨rfl, .inr ⟨g, 0, #[], rfl, hb, hg, Nat.le_refl _, by decide, rfl, rfl⟩⟩, fun i hi => absurd hi (Nat.not_lt_zero _)⟩
theorem PairRow.form {w : World} {base : Nat} {v : Value} {L : List (Int × Int)} (h : PairRow w base v L) : ∃ a cap, v = .slice a L.length cap := by
  obtain ⟨A, ⟨_, ho⟩, _⟩ := h
  rcases ho with ⟨rfl, h0⟩ | ⟨g, cap, cur, rfl, _⟩
  · exact ⟨none, 0, by rw [h0]⟩
  · exact ⟨_, _, rfl⟩
/-- What is read at place i. -/
theorem PairRow.read {w : World} {base : Nat} {v : Value} {L : List (Int × Int)} (h : PairRow w base v L) {i : Nat} (hi : i < L.length) :
    ∃ g cap u, v = .slice (some ⟨g, 0, none⟩) L.length cap ∧ g < w.heap.size ∧ u < w.heap.size ∧ w.cell? ⟨g, i, none⟩ = some (.slice (some ⟨u, 0, none⟩) 2 2) ∧ w.cell? ⟨u, 0, none⟩ = some (.int .i64 (L.getD i (0, 0)).1) ∧ w.cell? ⟨u, 1, none⟩ = some (.int .i64 (L.getD i (0, 0)).2) ∧
      w.heap[u]? = some (.cells #[.int .i64 (L.getD i (0, 0)).1, .int .i64 (L.getD i (0, 0)).2] 3 (0, 0)) := by
  obtain ⟨A, ⟨hl, ho⟩, hp⟩ := h
  rcases ho with ⟨_, h0⟩ | ⟨g, cap, cur, rfl, hb, hg, hnc, hcm, hcs, ht⟩
  · omega
  · obtain ⟨u, hu, hc⟩ := hp i hi
    refine ⟨g, cap, u, rfl, (Array.getElem?_eq_some_iff.1 hg).1, (Array.getElem?_eq_some_iff.1 hc).1, ?_, ?_, ?_, hc⟩
    · rw [cell_of_row w g i cur _ (0, 0) hg]
      have h1 : (slices2 A L.length)[i]? = some (.slice (A i) 2 2) := by simp [slices2, hi]
      rw [← ht, List.getElem?_take, if_pos (by omega)] at h1
      rw [← hu]
      simpa using h1
    · rw [cell_of_row w u 0 _ _ (0, 0) hc]; rfl
    · rw [cell_of_row w u 1 _ _ (0, 0) hc]; rfl
theorem info_IntS : (Tryz.prog.info? 41).map (fun i => (i.zero, i.size, i.bytes)) = some (some (.slice none 0 0), 1, 24) := by kernel_rfl
theorem getD_snoc {α : Type} {L : List α} {x d : α} {i : Nat} : (L ++ [x]).getD i d = if i = L.length then x else L.getD i d := by
  rw [List.getD_eq_getElem?_getD, List.getD_eq_getElem?_getD, List.getElem?_append]
  split
  · rw [if_neg (by omega)]
  · split
    · subst_vars; simp
    · rw [List.getElem?_eq_none (by simp; omega), List.getElem?_eq_none (by omega)]
theorem wpList_append_pair (w : World) {ops : Array Oper} {rest : List Oper} {o : Oper} {a : Act} {Q : Exit → Act → World → Prop} (hgd : o.guard = none) (s x : Operand)
    (ho : o.op = .call { callee := .builtin .append, args := #[s, x], argTypes := #[23, 23] }) (base : Nat) (v : Value) (L : List (Int × Int)) (hs : a.eval s = v) (h : PairRow w base v L)
    (ad : Addr) (c : Nat) (hx : a.eval x = .slice (some ad) 1 c) (g : Nat) (hn : w.cell? ad = some (.slice (some ⟨g, 0, none⟩) 2 2)) (p : Int × Int) (hp : PairAt w (some ⟨g, 0, none⟩) p) (hl : L.length ≤ 1048576) (hbase : base ≤ w.heap.size)
    (hK : ∀ v' w', PairRow w' base v' (L ++ [p]) → w.grownBy w' v.ownBlock → (v'.ownBlock = v.ownBlock ∨ v'.ownBlock = some w.heap.size) → (∀ b, v.ownBlock = some b → ∃ c fz, w.heap[b]? = some (.cells c 41 fz)) → wpList Tryz.prog ops Q rest (a.put o.dst v') w') :
    wpList Tryz.prog ops Q (o :: rest) a w := by
  obtain ⟨i0, hi, hz0, hz1, hz2⟩ := info_parts info_IntS
  obtain ⟨A, hown, hpa⟩ := h
  have hrow := own_row hown
  refine wpList_append_own_at w hgd s x 23 ho base 41 i0 _ 1 24 Tryz.underlying23 hi hz0 hz1 hz2 rfl (by decide) v L.length _ hs hown ad 1 c [.slice (some ⟨g, 0, none⟩) 2 2] hx rfl ?_ ?_ (by simp only [maxLen]; omega) (by omega) hbase ?_
  · intro j u hu
    match j, hu with
    | 0, hu =>
      obtain rfl : Value.slice (some ⟨g, 0, none⟩) 2 2 = u := by simpa using hu
      simpa [Addr.add] using hn
    | j + 1, hu => simp at hu
  · intro u hu
    obtain rfl : u = Value.slice (some ⟨g, 0, none⟩) 2 2 := by simpa using hu
    rfl
  intro v' w' ho' hg hnil hloc
  refine hK v' w' ⟨upd A L.length (some ⟨g, 0, none⟩), ?_, fun i hi' => ?_⟩ hg hloc (fun b hb => (hrow b hb).2)
  · rw [List.length_append, List.length_singleton, slices2_succ, upd_self, slices2_congr (fun i hi => upd_lt hi)]
    exact ho'
  · rw [List.length_append, List.length_singleton] at hi'
    rw [getD_snoc]
    by_cases e : i = L.length
    · subst e
      rw [if_pos rfl, upd_self]
      exact hp.grown hg (fun b hb => (hrow b hb).2)
    · rw [if_neg e, upd_lt (by omega)]
      exact (hpa i (by omega)).grown hg (fun b hb => (hrow b hb).2)
end Go.Proofs.YtbmhehjllchpoaaGreat
