/- Contracts of impl.sortedEdges, allEdges, boundary. -/
import Derived.Test.YtbmhehjllchpoaaSortRow
import Derived.Test.YtbmhehjllchpoaaSortShelf
import Derived.Test.YtbmhehjllchpoaaEdgeTable
import Derived.Maps.RangeWalk
namespace Go.Proofs.Ytbmhehjllchpoaa
open Go Go.RowKit Go.Maps Go.Sort
theorem cmpLays (blk off size : Nat) (w : World) : CmpLays Try.prog 107 #[] encE 2 cmpE blk off size w :=
  fun _ _ _ _ x y => cmpEdges_c x y _
set_option maxRecDepth 100000 in
/-- The library's sort, on a row of one's own. -/
theorem sortFunc_c (base : Nat) (v : Value) (L : List (Int × Int)) (w : World) (ho : w.ownsRow base 65 2 v L.length (edgeVals L)) (hn : L.length ≤ 1048576) :
    Calls Try.prog 106 #[v, .func (.func 107) #[] #[]] w fun e w' => e = .returned (.tuple #[]) ∧ w'.ownsRow base 65 2 v L.length (edgeVals (sortE L)) ∧ w.grownBy w' v.ownBlock := by
  have nil : ∀ (p : Option Addr) (cap : Nat), v = .slice p 0 cap → L.length = 0 → Calls Try.prog 106 #[v, .func (.func 107) #[] #[]] w fun e w' => e = .returned (.tuple #[]) ∧ w'.ownsRow base 65 2 v L.length (edgeVals (sortE L)) ∧ w.grownBy w' v.ownBlock := by
    intro p cap hv h0
    have hL : sortE L = L := by obtain rfl := List.length_eq_zero_iff.1 h0; exact List.mergeSort_nil
    subst hv
    have h := AnyF.slices_SortFunc_none Try.sortEdge p cap (.func (.func 107) #[] #[]) w
    change Calls Try.prog 106 _ _ _ at h
    refine h.mono ?_
    rintro e w' ⟨rfl, rfl⟩
    exact ⟨rfl, by rw [hL]; exact ho, ⟨rfl, rfl, rfl, Nat.le_refl _, fun _ _ _ => rfl⟩⟩
  have ho' := ho
  rcases ho.2 with ⟨rfl, h0⟩ | ⟨g, cap, cur, rfl, hb, hg, hnc, hcm, hcs, ht⟩
  · exact nil none 0 rfl h0
  · by_cases h0 : L.length = 0
    · exact nil (some ⟨g, 0, none⟩) cap (by rw [h0]) h0
    have eg : ∀ args w, (callFunc 107 args).run Try.prog w = .ok (.enter 107 args) w := enters_of Try.func107 (by kernel_rfl) rfl
    have hsz : (flatK encE 2 L.toArray).size = L.length * 2 := by simp
    have hH : HoldsK encE 2 w g 0 L.toArray := holds_flat hg (by rw [hsz, flat_edges]; exact ht)
    have h := AnyQ.slices_SortFunc_total Try.sortEdge 2 Try.isAgg65 Try.sizeOf65 encE (fun _ => rfl) (fun x v hv => by simp [encE] at hv; rcases hv with rfl | rfl <;> rfl) cmpE swo_cmpE 107 #[] g 0 cap L.toArray w eg (cmpLays g 0 _ w) hH (Array.getElem?_eq_some_iff.1 hg).1 (by simp; omega) cut_cmpE
    change Calls Try.prog 106 _ _ _ at h
    refine h.mono ?_
    rintro e w' ⟨rfl, n, os, rfl⟩
    have hs : (L.toArray.toList.mergeSort fun x y => !(ltOf cmpE) y x) = sortE L := by rw [ltOf_cmpE]; rfl
    rw [hs]
    refine ⟨rfl, ?_, ?_⟩
    · have hw := owns_flat (n := n) (os := os) (L := sortE L) (m := L.length) (len_sortE L) hb hg hnc hcm hcs
      exact hw
    · exact grownBy_flat _
set_option maxRecDepth 100000 in
set_option maxHeartbeats 1000000 in
/-- A key of the map is an edge. -/
theorem key_edge {key : Value} {kl : Lit} (h : keyOf Try.prog 65 key = some kl) : ∃ p : Int × Int, key = edgeV p := by
  unfold keyOf at h
  simp only [Try.underlying65] at h
  split at h
  · rename_i hc
    simp only [Bool.and_eq_true] at hc
    have hf := hc.2
    cases hl : Try.prog.keyLits (Try.prog.types.size + 1) 65 key.cells.toList with
    | none => rw [hl] at h; cases h
    | some ls =>
      clear h hc
      cases key with
      | agg cs =>
        simp only [Value.cells] at hl
        obtain ⟨m, hm⟩ : ∃ m, Try.prog.types.size + 1 = m + 2 := by
          have h0 : 0 < Try.prog.types.size := Nat.lt_of_le_of_lt (Nat.zero_le _) edge_row
          revert h0
          generalize Try.prog.types.size = s
          intro h0
          exact ⟨s - 1, by omega⟩
        rw [hm] at hl
        unfold Program.keyLits at hl
        simp only [Try.underlying65, edge_cells] at hl
        obtain ⟨l⟩ := cs
        simp only at hl
        split at hl
        · rename_i hc
          obtain ⟨hc1, _⟩ := hc
          match l, hc1 with
          | [a, b], _ =>
            have i1 : ∀ x z, Try.prog.keyLits (m + 1) 3 [x] = some z → ∃ n, x = .int .i64 n := fun x z hx => by
              unfold Program.keyLits at hx
              simp only [Try.underlying3] at hx
              cases x <;> simp at hx
              rename_i q n
              exact ⟨n, by rw [hx.1.1]⟩
            simp [int_cells] at hl
            cases ha : Try.prog.keyLits (m + 1) 3 [a] with
            | none => rw [ha] at hl; cases hl
            | some za =>
              cases hb : Try.prog.keyLits (m + 1) 3 [b] with
              | none => rw [ha, hb] at hl; cases hl
              | some zb =>
                obtain ⟨n1, rfl⟩ := i1 a za ha
                obtain ⟨n2, rfl⟩ := i1 b zb hb
                exact ⟨(n1, n2), rfl⟩
        · cases hl
      | _ => simp [Value.formed, Try.underlying65] at hf
  · cases h
/-- A range over the map: those of done have come, the others are still to come, cnt of them. -/
def MapRg (w : World) (b r n : Nat) (ks : List (Int × Int)) (F : Int × Int → Value) (done : List (Int × Int)) (cnt : Nat) : Prop :=
  ∃ (D : DataW Value) (left : Lit → Bool), w.ranges Try.prog 65 rawElem b r n D left cnt ∧ (∀ p kl, keyOf Try.prog 65 (edgeV p) = some kl → D.atKey kl (.held (.slice none 0 0)) = .held (F p)) ∧
    (∀ p kl, keyOf Try.prog 65 (edgeV p) = some kl → left kl = true → p ∈ ks ∧ p ∉ done) ∧ (∀ p kl, keyOf Try.prog 65 (edgeV p) = some kl → p ∈ ks → p ∉ done → left kl = true) ∧
    (∀ p ∈ ks, wfE p) ∧ done.Nodup ∧ ∀ p ∈ done, p ∈ ks
theorem MapRg.kept {w w' : World} {b r n cnt : Nat} {ks done : List (Int × Int)} {F : Int × Int → Value} {row : Option Nat} (h : MapRg w b r n ks F done cnt) (hg : w.grownBy w' row) (h1 : some b ≠ row) (h2 : some r ≠ row) : MapRg w' b r n ks F done cnt := by
  obtain ⟨D, left, h3, h4⟩ := h
  exact ⟨D, left, h3.kept hg h1 h2, h4⟩
theorem MapRg.below {w w' : World} {b r n cnt : Nat} {ks done : List (Int × Int)} {F : Int × Int → Value} (h : MapRg w b r n ks F done cnt) (hb : Below w.heap.size w w') : MapRg w' b r n ks F done cnt := h.kept (grownBy_of_below hb) (by simp) (by simp)
theorem MapRg.lt {w : World} {b r n cnt : Nat} {ks done : List (Int × Int)} {F : Int × Int → Value} (h : MapRg w b r n ks F done cnt) : b < w.heap.size ∧ r < w.heap.size := by
  obtain ⟨D, left, h3, h4⟩ := h
  exact ⟨h3.owns.lt, h3.lt⟩
theorem MapRg.left_eq {w : World} {b r n cnt : Nat} {ks done : List (Int × Int)} {F : Int × Int → Value} (h : MapRg w b r n ks F done cnt) : w.rangeLeft b r = cnt := by
  obtain ⟨D, left, h3, h4⟩ := h
  exact h3.left_eq
theorem MapRg.not_cells {w : World} {b r n cnt : Nat} {ks done : List (Int × Int)} {F : Int × Int → Value} (h : MapRg w b r n ks F done cnt) {g : Nat} {cs : Array Value} {e : TypeId} {fz : Nat × Nat} (hc : w.heap[g]? = some (.cells cs e fz)) : g ≠ b ∧ g ≠ r := by
  obtain ⟨D, left, ⟨es, clock, since, seen, c0, h1, _, _, _, h2, _⟩, h4⟩ := h
  refine ⟨fun e => ?_, fun e => ?_⟩
  · rw [e, h1] at hc; cases hc
  · rw [e, h2] at hc; cases hc
theorem wpList_range_map (w : World) {ops : Array Oper} {rest : List Oper} {o : Oper} {a : Act} {Q : Exit → Act → World → Prop} (hg : o.guard = none) (m : Operand) (hop : o.op = Op.range 72 m) (b n : Nat) (ks : List (Int × Int)) (F : Int × Int → Value)
    (hm : a.eval m = .map (some b)) (h : MapV w b n ks F)
    (hK : ∀ w' cnt, MapRg w' b w.heap.size n ks F [] cnt → w.grownBy w' none → w'.heap.size = w.heap.size + 1 → wpList Try.prog ops Q rest (a.put o.dst (.pointer (some ⟨w.heap.size, 0, none⟩))) w') :
    wpList Try.prog ops Q (o :: rest) a w := by
  obtain ⟨D, h1, h2, h3, h4, h5, h6, h7⟩ := h
  refine wpList_range_own w hg m _ hop 65 39 edge_law Try.underlying72 rawElem b n D hm h1 ?_
  intro w' hr hgr hsz
  refine hK w' _ ⟨D, _, hr, h2, fun p kl hk hl => ?_, fun p kl hk hp _ => ?_, h7, List.nodup_nil, by simp⟩ hgr hsz
  · rw [h4 p kl hk] at hl
    exact ⟨by simpa using hl, by simp⟩
  · rw [h4 p kl hk]
    simpa using hp
theorem wpList_next_map (w : World) {ops : Array Oper} {rest : List Oper} {o : Oper} {a : Act} {Q : Exit → Act → World → Prop} (hg : o.guard = none) (it : Operand) (hop : o.op = Op.next it false) (b r n : Nat) (ks : List (Int × Int)) (F : Int × Int → Value) (done : List (Int × Int)) (cnt : Nat)
    (hit : a.eval it = .pointer (some ⟨r, 0, none⟩)) (h : MapRg w b r n ks F done cnt)
    (hDone : (∀ p, p ∈ ks → p ∈ done) → wpList Try.prog ops Q rest (a.put o.dst (.tuple #[.bool false])) w)
    (hMore : ∀ (p : Int × Int) (w' : World) (cnt' : Nat), p ∈ ks → p ∉ done → MapRg w' b r n ks F (done ++ [p]) cnt' → cnt' < cnt → w.grownBy w' (some r) → w'.heap.size = w.heap.size →
      (Instr.entry (.pointer (some ⟨r, 0, none⟩))).run Try.prog w' = .ok (.tuple #[edgeV p, F p]) w' → wpList Try.prog ops Q rest (a.put o.dst (.tuple #[.bool true, edgeV p, F p])) w') :
    wpList Try.prog ops Q (o :: rest) a w := by
  obtain ⟨D, left, h1, h2, h3, h4, h5, h6, h7⟩ := h
  refine wpList_next_ranges w hg it hop 65 edge_law rawElem (edgeV : Int × Int → Value) (fun v : Value => v) (fun key kl hk => key_edge hk) (fun v y _ => ⟨v, rfl⟩) b r n D left cnt hit h1 ?_ ?_
  · intro _ hl
    refine hDone fun p hp => ?_
    obtain ⟨kl, hk⟩ := edge_key (h5 p hp)
    by_cases hd : p ∈ done
    · exact hd
    · have := h4 p kl hk hp hd
      rw [hl kl] at this; cases this
  · intro p c kl y w' cnt' hk hl hv hat hr hlt hgr hsz hen
    obtain ⟨e1, e2⟩ := h3 p kl hk hl
    have hc : c = F p := by
      have e3 := hat (.held (.slice none 0 0))
      rw [h2 p kl hk] at e3
      simp only [rawElem, Option.some.injEq] at hv
      rw [← hv] at e3
      simp only [DataW.held.injEq] at e3
      exact e3.symm
    subst hc
    have hkk := edge_law.key hk
    refine hMore p w' cnt' e1 e2 ⟨D, _, hr, h2, fun q kq hq hlq => ?_, fun q kq hq hqk hqd => ?_, h5, nodup_snoc h6 e2, fun q hq => ?_⟩ hlt hgr hsz hen
    · simp only [Bool.and_eq_true, Bool.not_eq_true'] at hlq
      obtain ⟨e3, e4⟩ := h3 q kq hq hlq.1
      refine ⟨e3, fun hm => ?_⟩
      rcases List.mem_append.1 hm with hm | hm
      · exact e4 hm
      · simp only [List.mem_singleton] at hm
        subst hm
        have : kq = kl := by rw [hk] at hq; exact (Option.some.inj hq).symm
        subst this
        have h9 := hlq.2
        rw [WideAt.sameKey_self hkk] at h9
        cases h9
    · have hne : q ≠ p := fun e => hqd (by rw [e]; simp)
      have h8 := h4 q kq hq hqk (fun hm => hqd (List.mem_append_left _ hm))
      have hnk : kq ≠ kl := fun e => hne (edge_inj hq (e ▸ hk))
      rw [h8]
      simp only [Bool.true_and, Bool.not_eq_true']
      exact sameKey_ne hnk
    · rcases List.mem_append.1 hq with hm | hm
      · exact h7 q hm
      · simp only [List.mem_singleton] at hm; rw [hm]; exact e1
end Go.Proofs.Ytbmhehjllchpoaa
