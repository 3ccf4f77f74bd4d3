/- EdgeLists, with CmpEdge, SortRow, Sorted, SortedEdges ahead of it. -/
import Derived.Test.YtpfmcobkfofbjaaGreatEdgeMath
import Derived.Deep.RegionHeld3
import Derived.Sort.Grow
import Derived.Shelf.SlSortCmp.NoneTotal
import Derived.Test.YtpfmcobkfofbjaaGreatSortShelf
import Derived.Test.YtpfmcobkfofbjaaGreatEdgeTable
import Derived.Maps.RangeWalk
import Derived.Test.YtpfmcobkfofbjaaGreatPairsB
import Derived.Test.YtpfmcobkfofbjaaGreatEdgeFaces
namespace Go.Proofs.YtpfmcobkfofbjaaGreat
open Go Go.RowKit Go.Sort
def cmpI (x y : Int) : Int := if x < y then -1 else if y < x then 1 else 0
def cmpE (p q : Int × Int) : Int := if cmpI p.1 q.1 = 0 then cmpI p.2 q.2 else cmpI p.1 q.1
theorem cmpE_neg (p q : Int × Int) : decide (cmpE p q < 0) = ltE p q := by
  obtain ⟨a, b⟩ := p
  obtain ⟨c, d⟩ := q
  unfold cmpE cmpI ltE
  dsimp only
  by_cases h1 : a < c
  · simp [h1]
  · by_cases h2 : c < a
    · simp [h1, h2]; omega
    · by_cases h3 : b < d
      · simp [h1, h2, h3]; omega
      · by_cases h4 : d < b
        · simp [h1, h2, h3, h4]
        · simp [h1, h2, h3, h4]
theorem cmp_isNaN_c (x : Int) (w : World) : Calls Tryz.prog 101 #[.int .i64 x] w fun e w' => e = .returned (.bool false) ∧ w = w' := by
  go_enter Tryz.func101, Tryz.ntmps101
  go_wp2
  all_goals (go_ret; refine ⟨ret_bool ?_, rfl⟩; simp)
theorem cmp_Compare_c (x y : Int) (w : World) : Calls Tryz.prog 84 #[.int .i64 x, .int .i64 y] w fun e w' => e = .returned (.int .i64 (cmpI x y)) ∧ w = w' := by
  have HC := Lib.hid (show ∀ r, r = cmpI x y → r = if x < y then -1 else if y < x then 1 else 0 from fun r h => h)
  go_enter Tryz.func84, Tryz.ntmps84
  go_wp2_with (go_at_call 101; refine (cmp_isNaN_c _ _).mono ?_; rintro e w' ⟨rfl, rfl⟩)
  all_goals (go_ret; refine ⟨ret_int ?_, rfl⟩; simp only [cmpI]; repeat' split; all_goals (first | rfl | (simp_all; done) | (exfalso; omega) | (simp at *; omega)))
/-- Of two numbers in a block: the first that is not nought. -/
theorem cmp_Or_c (g c : Nat) (x y r : Int) (w : World) (hr : r = if x = 0 then y else x) (h0 : w.cell? ⟨g, 0, none⟩ = some (.int .i64 x)) (h1 : w.cell? ⟨g, 1, none⟩ = some (.int .i64 y)) :
    Calls Tryz.prog 83 #[.slice (some ⟨g, 0, none⟩) 2 c] w fun e w' => e = .returned (.int .i64 r) ∧ w = w' := by
  have HA := Lib.hid (show (x != 0) = true → x = r from fun h => by rw [hr, if_neg (by simpa using h)])
  have HB := Lib.hid (show (x != 0) = false → y = r from fun h => by rw [hr, if_pos (by simpa using h)])
  clear hr
  go_enter Tryz.func83, Tryz.ntmps83
  go_wp2
  refine wp_loop_rounds 3 ?_
  rw [rounds_succ]
  go_wp2
  all_goals try (go_ret; exact ⟨ret_int (HA.out (by assumption)), rfl⟩)
  rw [rounds_succ]
  go_wp2
  all_goals try (go_ret; exact ⟨ret_int (HB.out (by assumption)), rfl⟩)
  rw [rounds_succ]
  go_wp2
  go_ret
  refine ⟨ret_int ?_, rfl⟩
  rw [← HB.out (by assumption)]
  simp_all
@[reducible] def CmpS (E : Nat) (a b c d : Int) (w' : World) : Prop := w'.cell? ⟨E, 0, none⟩ = some (.int .i64 a) ∧ w'.cell? ⟨E, 1, none⟩ = some (.int .i64 b) ∧ w'.cell? ⟨E + 1, 0, none⟩ = some (.int .i64 c) ∧ w'.cell? ⟨E + 1, 1, none⟩ = some (.int .i64 d)
set_option maxRecDepth 100000 in
set_option maxHeartbeats 2000000 in
theorem cmpEdges_c (p q : Int × Int) (W : World) : Calls Tryz.prog 82 #[.agg #[.int .i64 p.1, .int .i64 p.2], .agg #[.int .i64 q.1, .int .i64 q.2]] W fun e w' => e = .returned (.int .i64 (cmpE p q)) ∧ ∃ n os, w' = grow (W.drewN n) os := by
  obtain ⟨a, b⟩ := p
  obtain ⟨c, d⟩ := q
  dsimp only
  have HC1 := Lib.hid (fun w => cmp_Compare_c a c w)
  have HC2 := Lib.hid (fun w => cmp_Compare_c b d w)
  have HR := Lib.hid (show cmpE (a, b) (c, d) = if cmpI a c = 0 then cmpI b d else cmpI a c from rfl)
  generalize cmpE (a, b) (c, d) = r at *
  generalize cmpI a c = r1 at *
  generalize cmpI b d = r2 at *
  go_enter Tryz.func82, Tryz.ntmps82
  go_wp2
  refine region_tail 10 (by kernel_rfl) (by kernel_rfl) ?_
  simp only [List.take_succ_cons, List.take_zero, List.drop_succ_cons, List.drop_zero]
  repeat still_step
  still_call (flip_same (HC1.out _))
  repeat still_step
  still_call (flip_same (HC2.out _))
  repeat still_step
  refine wpStill_nil ?_
  go_wp2_with (go_at_call 83; refine (cmp_Or_c _ _ r1 r2 r _ HR.out (by simp [go_sem]) (by simp [go_sem])).mono ?_; rintro e w' ⟨rfl, rfl⟩)
  go_ret
  refine ⟨rfl, 1, #[.cells #[.int .i64 a, .int .i64 b] 56, .cells #[.int .i64 c, .int .i64 d] 56, .cells #[.int .i64 r1, .int .i64 r2] 3], ?_⟩
  unfold grow World.alloc World.drew World.drewN
  congr 1
end Go.Proofs.YtpfmcobkfofbjaaGreat
namespace Go.Proofs.YtpfmcobkfofbjaaGreat
open Go Go.RowKit Go.Sort
def encE (p : Int × Int) : List Value := [.int .i64 p.1, .int .i64 p.2]
theorem ltOf_cmpE : ltOf cmpE = ltE := by
  funext x y
  unfold ltOf
  exact cmpE_neg x y
theorem swo_cmpE : SWO (ltOf cmpE) := by
  rw [ltOf_cmpE]
  refine ⟨fun x => ltE_irr x, fun x y z h1 h2 => ltE_trans h1 h2, fun x y z h1 h2 => ?_⟩
  simp only [ltE, decide_eq_false_iff_not] at *; omega
theorem cut_cmpE (x y : Int × Int) (h1 : ltOf cmpE x y = false) (h2 : ltOf cmpE y x = false) : x = y := by
  rw [ltOf_cmpE] at h1 h2
  rcases ltE_not.1 h1 with e | e
  · exact e.symm
  · rw [h2] at e; cases e
theorem flat_edges (L : List (Int × Int)) : (flatK encE 2 L.toArray).toList = edgeVals L := by
  have hl : (edgeVals L).length = L.length * 2 := flat_len (fun _ _ => rfl)
  apply List.ext_getElem?
  intro t
  by_cases ht : t < L.length * 2
  · have h1 : (edgeVals L)[t / 2 * 2 + t % 2]? = (edgeAt L (t / 2))[t % 2]? := flat_get (s := 2) (n := L.length) (C := edgeAt L) (fun _ _ => rfl) (t / 2) (by omega) (t % 2) (Nat.mod_lt _ (by omega))
    rw [show t / 2 * 2 + t % 2 = t by omega] at h1
    rw [h1, Array.getElem?_toList]
    have h2 : (flatK encE 2 L.toArray)[t]? = some (flatK encE 2 L.toArray)[t]! := by
      rw [getElem!_pos _ t (by simpa using ht)]
      exact Array.getElem?_eq_getElem _
    rw [h2, get_flatK _ _ _ _ (by simpa using ht)]
    have h3 : t / 2 < L.length := by omega
    have h4 : L.toArray[t / 2]! = L.getD (t / 2) (0, 0) := by
      rw [getElem!_pos _ _ (by simpa using h3)]
      simp [List.getD_eq_getElem?_getD, List.getElem?_eq_getElem h3]
    rw [h4]
    rcases Nat.mod_two_eq_zero_or_one t with e | e <;> rw [e] <;> simp [edgeAt, encE]
  · rw [List.getElem?_eq_none (by simp; omega), List.getElem?_eq_none (by omega)]
theorem holds_flat {w : World} {g : Nat} {cur : Array Value} {e : TypeId} {F : Array Value} (hb : w.heap[g]? = some (.cells cur e (0, 0))) (ht : cur.toList.take F.size = F.toList) : Holds id w g 0 F := by
  intro j hj
  refine ⟨?_, by simp [World.frozen?, hb]⟩
  have h1 : (cur.toList.take F.size)[j]? = F.toList[j]? := by rw [ht]
  rw [List.getElem?_take_of_lt hj] at h1
  simp only [World.cell?, hb, Nat.zero_add]
  simp only [Option.isSome_none, Bool.false_eq_true, if_false]
  rw [← Array.getElem?_toList, h1, getElem!_pos F j hj]
  simp [hj]
theorem heap_flat {w : World} {g n : Nat} {os : Array Obj} {cur : Array Value} {e : TypeId} {fr : Nat × Nat} (F : Array Value) (hb : w.heap[g]? = some (.cells cur e fr)) :
    (grow (putRow id (Sort.ahead w n) g 0 F) os).heap[g]? = some (.cells (putCells id 0 F cur) e fr) := by
  have hg : g < w.heap.size := (Array.getElem?_eq_some_iff.1 hb).1
  rw [heap_grow_old _ _ (by simpa using hg)]
  simp [putRow, mapBlock, Sort.ahead, Array.getElem?_modify, hb, onCells]
theorem grownBy_flat {w : World} {g n : Nat} {os : Array Obj} (F : Array Value) : w.grownBy (grow (putRow id (Sort.ahead w n) g 0 F) os) (some g) := by
  refine ⟨rfl, rfl, rfl, by simp, fun k hk hne => ?_⟩
  rw [heap_grow_old _ _ (by simpa using hk)]
  have : g ≠ k := fun e => hne (by rw [e])
  simp [putRow, mapBlock, Sort.ahead, Array.getElem?_modify, this]
theorem take_flat (cur F : Array Value) (h : F.size ≤ cur.size) : (putCells id 0 F cur).toList.take F.size = F.toList := by
  apply List.ext_getElem?
  intro j
  by_cases hj : j < F.size
  · rw [List.getElem?_take_of_lt hj, Array.getElem?_toList]
    simp [putCells, hj, show j < cur.size by omega]
  · rw [List.getElem?_take_eq_none (by omega), List.getElem?_eq_none (by simp; omega)]
/-- Behind the sort the same slice owns the sorted row. -/
theorem owns_flat {w : World} {base g cap n m : Nat} {e : TypeId} {os : Array Obj} {cur : Array Value} {L : List (Int × Int)} (hl : L.length = m) (hbase : base ≤ g) (hb : w.heap[g]? = some (.cells cur e (0, 0)))
    (h1 : m ≤ cap) (h2 : cap ≤ maxLen) (h3 : cur.size = cap * 2) :
    (grow (putRow id (Sort.ahead w n) g 0 (flatK encE 2 L.toArray)) os).ownsRow base e 2 (.slice (some ⟨g, 0, none⟩) m cap) m (edgeVals L) := by
  have hs : (flatK encE 2 L.toArray).size = m * 2 := by simp [hl]
  refine ⟨by rw [← flat_edges]; simp [hl], .inr ⟨g, cap, _, rfl, hbase, heap_flat _ hb, h1, h2, by simp [putCells, h3], ?_⟩⟩
  rw [← flat_edges, ← hs]
  refine take_flat cur _ ?_
  rw [hs, h3]
  exact Nat.mul_le_mul_right 2 h1
end Go.Proofs.YtpfmcobkfofbjaaGreat
namespace Go.Proofs.YtpfmcobkfofbjaaGreat
open Go Go.RowKit Go.Maps Go.Sort
theorem cmpLays (blk off size : Nat) (w : World) : CmpLays Tryz.prog 82 #[] encE 2 cmpE blk off size w :=
  fun _ _ _ _ x y => cmpEdges_c x y _
set_option maxRecDepth 100000 in
/-- The library's sort, on a row of one's own. -/
theorem sortFunc_c (base : Nat) (v : Value) (L : List (Int × Int)) (w : World) (ho : w.ownsRow base 56 2 v L.length (edgeVals L)) (hn : L.length ≤ 1048576) :
    Calls Tryz.prog 81 #[v, .func (.func 82) #[] #[]] w fun e w' => e = .returned (.tuple #[]) ∧ w'.ownsRow base 56 2 v L.length (edgeVals (sortE L)) ∧ w.grownBy w' v.ownBlock := by
  have nil : ∀ (p : Option Addr) (cap : Nat), v = .slice p 0 cap → L.length = 0 → Calls Tryz.prog 81 #[v, .func (.func 82) #[] #[]] w fun e w' => e = .returned (.tuple #[]) ∧ w'.ownsRow base 56 2 v L.length (edgeVals (sortE L)) ∧ w.grownBy w' v.ownBlock := by
    intro p cap hv h0
    have hL : sortE L = L := by obtain rfl := List.length_eq_zero_iff.1 h0; exact List.mergeSort_nil
    subst hv
    have h := AnyF.slices_SortFunc_none Tryz.sortEdge p cap (.func (.func 82) #[] #[]) w
    change Calls Tryz.prog 81 _ _ _ at h
    refine h.mono ?_
    rintro e w' ⟨rfl, rfl⟩
    exact ⟨rfl, by rw [hL]; exact ho, ⟨rfl, rfl, rfl, Nat.le_refl _, fun _ _ _ => rfl⟩⟩
  have ho' := ho
  rcases ho.2 with ⟨rfl, h0⟩ | ⟨g, cap, cur, rfl, hb, hg, hnc, hcm, hcs, ht⟩
  · exact nil none 0 rfl h0
  · by_cases h0 : L.length = 0
    · exact nil (some ⟨g, 0, none⟩) cap (by rw [h0]) h0
    have eg : ∀ args w, (callFunc 82 args).run Tryz.prog w = .ok (.enter 82 args) w := enters_of Tryz.func82 (by kernel_rfl) rfl
    have hsz : (flatK encE 2 L.toArray).size = L.length * 2 := by simp
    have hH : HoldsK encE 2 w g 0 L.toArray := holds_flat hg (by rw [hsz, flat_edges]; exact ht)
    have h := AnyQ.slices_SortFunc_total Tryz.sortEdge 2 Tryz.isAgg56 Tryz.sizeOf56 encE (fun _ => rfl) (fun x v hv => by simp [encE] at hv; rcases hv with rfl | rfl <;> rfl) cmpE swo_cmpE 82 #[] g 0 cap L.toArray w eg (cmpLays g 0 _ w) hH (Array.getElem?_eq_some_iff.1 hg).1 (by simp; omega) cut_cmpE
    change Calls Tryz.prog 81 _ _ _ at h
    refine h.mono ?_
    rintro e w' ⟨rfl, n, os, rfl⟩
    have hs : (L.toArray.toList.mergeSort fun x y => !(ltOf cmpE) y x) = sortE L := by rw [ltOf_cmpE]; rfl
    rw [hs]
    refine ⟨rfl, ?_, ?_⟩
    · have hw := owns_flat (n := n) (os := os) (L := sortE L) (m := L.length) (len_sortE L) hb hg hnc hcm hcs
      exact hw
    · exact grownBy_flat _
set_option maxRecDepth 100000 in
set_option maxHeartbeats 1000000 in
/-- A key of the map is an edge. -/
theorem key_edge {key : Value} {kl : Lit} (h : keyOf Tryz.prog 56 key = some kl) : ∃ p : Int × Int, key = edgeV p := by
  unfold keyOf at h
  simp only [Tryz.underlying56] at h
  split at h
  · rename_i hc
    simp only [Bool.and_eq_true] at hc
    have hf := hc.2
    cases hl : Tryz.prog.keyLits (Tryz.prog.types.size + 1) 56 key.cells.toList with
    | none => rw [hl] at h; cases h
    | some ls =>
      clear h hc
      cases key with
      | agg cs =>
        simp only [Value.cells] at hl
        obtain ⟨m, hm⟩ : ∃ m, Tryz.prog.types.size + 1 = m + 2 := by
          have h0 : 0 < Tryz.prog.types.size := Nat.lt_of_le_of_lt (Nat.zero_le _) edge_row
          revert h0
          generalize Tryz.prog.types.size = s
          intro h0
          exact ⟨s - 1, by omega⟩
        rw [hm] at hl
        unfold Program.keyLits at hl
        simp only [Tryz.underlying56, edge_cells] at hl
        obtain ⟨l⟩ := cs
        simp only at hl
        split at hl
        · rename_i hc
          obtain ⟨hc1, _⟩ := hc
          match l, hc1 with
          | [a, b], _ =>
            have i1 : ∀ x z, Tryz.prog.keyLits (m + 1) 3 [x] = some z → ∃ n, x = .int .i64 n := fun x z hx => by
              unfold Program.keyLits at hx
              simp only [Tryz.underlying3] at hx
              cases x <;> simp at hx
              rename_i q n
              exact ⟨n, by rw [hx.1.1]⟩
            simp [int_cells] at hl
            cases ha : Tryz.prog.keyLits (m + 1) 3 [a] with
            | none => rw [ha] at hl; cases hl
            | some za =>
              cases hb : Tryz.prog.keyLits (m + 1) 3 [b] with
              | none => rw [ha, hb] at hl; cases hl
              | some zb =>
                obtain ⟨n1, rfl⟩ := i1 a za ha
                obtain ⟨n2, rfl⟩ := i1 b zb hb
                exact ⟨(n1, n2), rfl⟩
        · cases hl
      | _ => simp [Value.formed, Tryz.underlying56] at hf
  · cases h
/-- A range over the map: those of done have come, the others are still to come, cnt of them. -/
def MapRg (w : World) (b r n : Nat) (ks : List (Int × Int)) (F : Int × Int → Value) (done : List (Int × Int)) (cnt : Nat) : Prop :=
  ∃ (D : DataW Value) (left : Lit → Bool), w.ranges Tryz.prog 56 rawElem b r n D left cnt ∧ (∀ p kl, keyOf Tryz.prog 56 (edgeV p) = some kl → D.atKey kl (.held (.slice none 0 0)) = .held (F p)) ∧
    (∀ p kl, keyOf Tryz.prog 56 (edgeV p) = some kl → left kl = true → p ∈ ks ∧ p ∉ done) ∧ (∀ p kl, keyOf Tryz.prog 56 (edgeV p) = some kl → p ∈ ks → p ∉ done → left kl = true) ∧
    (∀ p ∈ ks, wfE p) ∧ done.Nodup ∧ ∀ p ∈ done, p ∈ ks
theorem MapRg.kept {w w' : World} {b r n cnt : Nat} {ks done : List (Int × Int)} {F : Int × Int → Value} {row : Option Nat} (h : MapRg w b r n ks F done cnt) (hg : w.grownBy w' row) (h1 : some b ≠ row) (h2 : some r ≠ row) : MapRg w' b r n ks F done cnt := by
  obtain ⟨D, left, h3, h4⟩ := h
  exact ⟨D, left, h3.kept hg h1 h2, h4⟩
theorem MapRg.below {w w' : World} {b r n cnt : Nat} {ks done : List (Int × Int)} {F : Int × Int → Value} (h : MapRg w b r n ks F done cnt) (hb : Below w.heap.size w w') : MapRg w' b r n ks F done cnt := h.kept (grownBy_of_below hb) (by simp) (by simp)
theorem MapRg.lt {w : World} {b r n cnt : Nat} {ks done : List (Int × Int)} {F : Int × Int → Value} (h : MapRg w b r n ks F done cnt) : b < w.heap.size ∧ r < w.heap.size := by
  obtain ⟨D, left, h3, h4⟩ := h
  exact ⟨h3.owns.lt, h3.lt⟩
theorem MapRg.left_eq {w : World} {b r n cnt : Nat} {ks done : List (Int × Int)} {F : Int × Int → Value} (h : MapRg w b r n ks F done cnt) : w.rangeLeft b r = cnt := by
  obtain ⟨D, left, h3, h4⟩ := h
  exact h3.left_eq
theorem MapRg.not_cells {w : World} {b r n cnt : Nat} {ks done : List (Int × Int)} {F : Int × Int → Value} (h : MapRg w b r n ks F done cnt) {g : Nat} {cs : Array Value} {e : TypeId} {fz : Nat × Nat} (hc : w.heap[g]? = some (.cells cs e fz)) : g ≠ b ∧ g ≠ r := by
  obtain ⟨D, left, ⟨es, clock, since, seen, c0, h1, _, _, _, h2, _⟩, h4⟩ := h
  refine ⟨fun e => ?_, fun e => ?_⟩
  · rw [e, h1] at hc; cases hc
  · rw [e, h2] at hc; cases hc
theorem wpList_range_map (w : World) {ops : Array Oper} {rest : List Oper} {o : Oper} {a : Act} {Q : Exit → Act → World → Prop} (hg : o.guard = none) (m : Operand) (hop : o.op = Op.range 50 m) (b n : Nat) (ks : List (Int × Int)) (F : Int × Int → Value)
    (hm : a.eval m = .map (some b)) (h : MapV w b n ks F)
    (hK : ∀ w' cnt, MapRg w' b w.heap.size n ks F [] cnt → w.grownBy w' none → w'.heap.size = w.heap.size + 1 → wpList Tryz.prog ops Q rest (a.put o.dst (.pointer (some ⟨w.heap.size, 0, none⟩))) w') :
    wpList Tryz.prog ops Q (o :: rest) a w := by
  obtain ⟨D, h1, h2, h3, h4, h5, h6, h7⟩ := h
  refine wpList_range_own w hg m _ hop 56 45 edge_law Tryz.underlying50 rawElem b n D hm h1 ?_
  intro w' hr hgr hsz
  refine hK w' _ ⟨D, _, hr, h2, fun p kl hk hl => ?_, fun p kl hk hp _ => ?_, h7, List.nodup_nil, by simp⟩ hgr hsz
  · rw [h4 p kl hk] at hl
    exact ⟨by simpa using hl, by simp⟩
  · rw [h4 p kl hk]
    simpa using hp
theorem wpList_next_map (w : World) {ops : Array Oper} {rest : List Oper} {o : Oper} {a : Act} {Q : Exit → Act → World → Prop} (hg : o.guard = none) (it : Operand) (hop : o.op = Op.next it false) (b r n : Nat) (ks : List (Int × Int)) (F : Int × Int → Value) (done : List (Int × Int)) (cnt : Nat)
    (hit : a.eval it = .pointer (some ⟨r, 0, none⟩)) (h : MapRg w b r n ks F done cnt)
    (hDone : (∀ p, p ∈ ks → p ∈ done) → wpList Tryz.prog ops Q rest (a.put o.dst (.tuple #[.bool false])) w)
    (hMore : ∀ (p : Int × Int) (w' : World) (cnt' : Nat), p ∈ ks → p ∉ done → MapRg w' b r n ks F (done ++ [p]) cnt' → cnt' < cnt → w.grownBy w' (some r) → w'.heap.size = w.heap.size →
      (Instr.entry (.pointer (some ⟨r, 0, none⟩))).run Tryz.prog w' = .ok (.tuple #[edgeV p, F p]) w' → wpList Tryz.prog ops Q rest (a.put o.dst (.tuple #[.bool true, edgeV p, F p])) w') :
    wpList Tryz.prog ops Q (o :: rest) a w := by
  obtain ⟨D, left, h1, h2, h3, h4, h5, h6, h7⟩ := h
  refine wpList_next_ranges w hg it hop 56 edge_law rawElem (edgeV : Int × Int → Value) (fun v : Value => v) (fun key kl hk => key_edge hk) (fun v y _ => ⟨v, rfl⟩) b r n D left cnt hit h1 ?_ ?_
  · intro _ hl
    refine hDone fun p hp => ?_
    obtain ⟨kl, hk⟩ := edge_key (h5 p hp)
    by_cases hd : p ∈ done
    · exact hd
    · have := h4 p kl hk hp hd
      rw [hl kl] at this; cases this
  · intro p c kl y w' cnt' hk hl hv hat hr hlt hgr hsz hen
    obtain ⟨e1, e2⟩ := h3 p kl hk hl
    have hc : c = F p := by
      have e3 := hat (.held (.slice none 0 0))
      rw [h2 p kl hk] at e3
      simp only [rawElem, Option.some.injEq] at hv
      rw [← hv] at e3
      simp only [DataW.held.injEq] at e3
      exact e3.symm
    subst hc
    have hkk := edge_law.key hk
    refine hMore p w' cnt' e1 e2 ⟨D, _, hr, h2, fun q kq hq hlq => ?_, fun q kq hq hqk hqd => ?_, h5, nodup_snoc h6 e2, fun q hq => ?_⟩ hlt hgr hsz hen
    · simp only [Bool.and_eq_true, Bool.not_eq_true'] at hlq
      obtain ⟨e3, e4⟩ := h3 q kq hq hlq.1
      refine ⟨e3, fun hm => ?_⟩
      rcases List.mem_append.1 hm with hm | hm
      · exact e4 hm
      · simp only [List.mem_singleton] at hm
        subst hm
        have : kq = kl := by rw [hk] at hq; exact (Option.some.inj hq).symm
        subst this
        have h9 := hlq.2
        rw [WideAt.sameKey_self hkk] at h9
        cases h9
    · have hne : q ≠ p := fun e => hqd (by rw [e]; simp)
      have h8 := h4 q kq hq hqk (fun hm => hqd (List.mem_append_left _ hm))
      have hnk : kq ≠ kl := fun e => hne (edge_inj hq (e ▸ hk))
      rw [h8]
      simp only [Bool.true_and, Bool.not_eq_true']
      exact sameKey_ne hnk
    · rcases List.mem_append.1 hq with hm | hm
      · exact h7 q hm
      · simp only [List.mem_singleton] at hm; rw [hm]; exact e1
end Go.Proofs.YtpfmcobkfofbjaaGreat
namespace Go.Proofs.YtpfmcobkfofbjaaGreat
open Go Go.RowKit Go.Maps Go.Sort
def qBnd (n : Nat) : Bool := decide (n = 1)
theorem qBnd_eq (n : Nat) : ((n : Int) == 1) = qBnd n := by
  rw [Bool.eq_iff_iff]; simp [qBnd]; omega
theorem nodup_len {α : Type} [BEq α] [LawfulBEq α] {l m : List α} (h : l.Nodup) (hs : ∀ x ∈ l, x ∈ m) : l.length ≤ m.length := by
  induction l generalizing m with
  | nil => simp
  | cons x l ih =>
    obtain ⟨h1, h2⟩ := List.nodup_cons.1 h
    have hx := hs x (by simp)
    have h3 := ih (m := m.erase x) h2 (fun y hy => (List.mem_erase_of_ne (fun (e : y = x) => h1 (by rw [← e]; exact hy))).2 (hs y (by simp [hy])))
    rw [List.length_erase_of_mem hx] at h3
    have := List.length_pos_of_mem hx
    simp only [List.length_cons]
    omega
def qAll (_ : Nat) : Bool := true
theorem own_slice {w : World} {base : Nat} {e : TypeId} {s : Nat} {v : Value} {n : Nat} {xs : List Value} (h : w.ownsRow base e s v n xs) : ∃ a cap, v = .slice a n cap := by
  rcases h.2 with ⟨rfl, h0⟩ | ⟨g, cap, cur, rfl, _⟩
  · exact ⟨none, 0, by rw [h0]⟩
  · exact ⟨_, _, rfl⟩
theorem is_bnd (a : Option Addr) (n c : Nat) (w : World) : Calls Tryz.prog 87 #[.slice a n c] w fun e w' => e = .returned (.bool (qBnd n)) ∧ w = w' := by
  go_enter Tryz.func87, Tryz.ntmps87
  go_wp2
  go_ret
  exact ⟨ret_bool (qBnd_eq n), rfl⟩
theorem is_all (a : Option Addr) (n c : Nat) (w : World) : Calls Tryz.prog 61 #[.slice a n c] w fun e w' => e = .returned (.bool (qAll n)) ∧ w = w' := by
  go_enter Tryz.func61, Tryz.ntmps61
  go_wp2
  go_ret
  exact ⟨rfl, rfl⟩
theorem wpList_append_edge (w : World) {ops : Array Oper} {rest : List Oper} {o : Oper} {a : Act} {Q : Exit → Act → World → Prop} (hgd : o.guard = none) (s x : Operand)
    (ho : o.op = .call { callee := .builtin .append, args := #[s, x], argTypes := #[52, 52] }) (base : Nat) (v : Value) (L : List (Int × Int)) (hs : a.eval s = v) (hown : w.ownsRow base 56 2 v L.length (edgeVals L))
    (ad : Addr) (c : Nat) (hx : a.eval x = .slice (some ad) 1 c) (p : Int × Int) (hn0 : w.cell? ad = some (.int .i64 p.1)) (hn1 : w.cell? (ad.add 1) = some (.int .i64 p.2)) (hl : L.length ≤ 1048576) (hbase : base ≤ w.heap.size)
    (hK : ∀ v' w', w'.ownsRow base 56 2 v' (L ++ [p]).length (edgeVals (L ++ [p])) → w.grownBy w' v.ownBlock → (v'.ownBlock = v.ownBlock ∨ v'.ownBlock = some w.heap.size) → wpList Tryz.prog ops Q rest (a.put o.dst v') w') :
    wpList Tryz.prog ops Q (o :: rest) a w := by
  obtain ⟨i0, hi, hz0, hz1, hz2⟩ := info_parts info_Edge
  refine wpList_append_own_at w hgd s x 52 ho base 56 i0 _ 2 16 Tryz.underlying52 hi hz0 hz1 hz2 rfl (by decide) v L.length _ hs hown ad 1 c [.int .i64 p.1, .int .i64 p.2] hx rfl ?_ ?_ (by simp only [maxLen]; omega) (by omega) hbase ?_
  · intro j u hu
    match j, hu with
    | 0, hu =>
      obtain rfl : Value.int .i64 p.1 = u := by simpa using hu
      simpa [Addr.add] using hn0
    | 1, hu =>
      obtain rfl : Value.int .i64 p.2 = u := by simpa using hu
      exact hn1
    | j + 2, hu => simp at hu
  · intro u hu
    simp only [List.mem_cons, List.not_mem_nil, or_false] at hu
    rcases hu with rfl | rfl <;> rfl
  intro v' w' ho' hg hnil hloc
  exact hK v' w' (by rw [List.length_append, List.length_singleton, edgeVals_snoc]; exact ho') hg hloc
set_option maxRecDepth 100000 in
set_option maxHeartbeats 2000000 in
theorem sorted_bnd (base b n : Nat) (ks : List (Int × Int)) (F : Int × Int → Value) (G : Int × Int → List Int) (w : World) (hg : Groups w base b n ks F G) (hn : ks.length ≤ 1048576) :
    Calls Tryz.prog 60 #[.map (some b), .func (.func 87) #[] #[]] w fun e w' => ∃ v, e = .returned v ∧ w'.ownsRow w.heap.size 56 2 v (sortE (ks.filter fun p => qBnd (G p).length)).length (edgeVals (sortE (ks.filter fun p => qBnd (G p).length))) ∧ Below w.heap.size w w' := by
  have HM := Lib.hid hg.m
  have hblt := hg.m.lt
  have HNK := Lib.hid (show ks.Nodup from by obtain ⟨D, _, _, _, _, _, h, _⟩ := hg.m; exact h)
  have HFS := Lib.hid (show ∀ p, ∃ a cap, F p = .slice a (G p).length cap from fun p => own_slice (hg.own p))
  obtain ⟨q, hq⟩ : ∃ q : Int × Int → Bool, q = fun p => qBnd (G p).length := ⟨_, rfl⟩
  rw [← hq]
  have HIS := Lib.hid (show ∀ p a c W, Calls Tryz.prog 87 #[.slice a (G p).length c] W fun e w' => e = .returned (.bool (q p)) ∧ W = w' from fun p a c W => by rw [hq]; exact is_bnd a _ c W)
  obtain ⟨R, hR⟩ : ∃ R, R = sortE (ks.filter q) := ⟨_, rfl⟩
  rw [← hR]
  have HR := Lib.hid hR
  clear hg hq hR
  go_enter Tryz.func60, Tryz.ntmps60
  go_wp2_with (at_range; refine wpList_range_map _ rfl _ rfl b n ks F rfl (HM.out.kept (by repeat (first | exact Below.refl _ _ | refine Below.drew ?_ | refine Below.alloc ?_ (by first | exact Nat.le_refl _ | (simp; done) | (simp; omega) | omega) _ | refine Below.more ?_ (by first | exact Nat.le_refl _ | (simp; done) | (simp; omega) | omega) _ _ | refine Below.setCell ?_ (by first | exact Nat.le_refl _ | (simp; done) | (simp; omega) | omega) _ | assumption))) ?_; intro w0 cnt0 hrg0 hg0 hs0; rw [World.size_alloc] at hrg0 hs0 ⊢)
  go_frame
  have HRG0 := Lib.hid hrg0
  have HB0 := Lib.hid (show Below w.heap.size w w0 from Below.grown (Below.alloc (Below.refl _ _) (Nat.le_refl _) _) hg0 (by simp) (fun g e => by cases e))
  have HOW0 := Lib.hid (show w0.ownsRow w.heap.size 56 2 (.slice (some ⟨w.heap.size, 0, none⟩) 0 0) 0 [] from own_grown (by
      have hz := World.ownsRow_made (e := 56) (size := 2) (base := w.heap.size) w #[] 0 (by simp) (by decide) (by simp)
      simpa using hz) hg0 (fun b e => by cases e))
  clear hrg0 hg0 HM
  go_loopw [5] (fun out wr => ∃ (done : List (Int × Int)) (cnt : Nat), MapRg wr b (w.heap.size + 1) n ks F done cnt ∧ Below w.heap.size w wr ∧ wr.ownsRow w.heap.size 56 2 out (done.filter q).length (edgeVals (done.filter q))) (fun _ wr => wr.rangeLeft b (w.heap.size + 1))
  case atStart => exact ⟨[], cnt0, HRG0.out, HB0.out, HOW0.out⟩
  case round =>
    clear HRG0 HB0 HOW0 hs0
    obtain ⟨done, cnt, hrg, hbel, hown⟩ := hrel
    have HRG := Lib.hid hrg
    have HBEL := Lib.hid hbel
    have HOWN := Lib.hid hown
    clear hrg hbel hown
    go_wp2_with (at_next; refine wpList_next_map _ rfl _ rfl b (w.heap.size + 1) n ks F done cnt rfl HRG.out ?_ ?_)
    · intro hall
      have HALL := Lib.hid (show ∀ p, p ∈ ks → p ∈ done from fun ⟨a, b⟩ h => by first | exact hall _ h | exact hall a b h)
      have HL := Lib.hid (show sortE (done.filter q) = R from by
        rw [HR.out]
        obtain ⟨D, left, _, _, _, _, _, h6, h7⟩ := HRG.out
        refine sortE_congr (h6.filter _) (HNK.out.filter _) fun x => ?_
        rw [List.mem_filter, List.mem_filter]
        exact ⟨fun h => ⟨h7 x h.1, h.2⟩, fun h => ⟨HALL.out x h.1, h.2⟩⟩)
      have HLN := Lib.hid (show (done.filter q).length ≤ 1048576 from by
        obtain ⟨D, left, _, _, _, _, _, h6, h7⟩ := HRG.out
        have h8 : done.length ≤ ks.length := nodup_len h6 h7
        have h9 := List.length_filter_le q done
        omega)
      clear hall HALL
      obtain ⟨L, hL⟩ : ∃ L, L = done.filter q := ⟨_, rfl⟩
      rw [← hL] at HL HLN HOWN
      have HLE := Lib.hid (len_sortE L)
      clear hL
      go_wp2_with (go_at_call 81; refine (sortFunc_c w.heap.size _ L _ HOWN.out HLN.out).mono ?_; rintro e w1 ⟨rfl, ho1, hg1⟩; have HO1 := Lib.hid ho1; have HG1 := Lib.hid hg1; clear ho1 hg1)
      go_ret
      refine ⟨_, rfl, by rw [← HL.out, HLE.out]; exact HO1.out, Below.grown HBEL.out HG1.out HBEL.out.size (fun g e => (own_row HOWN.out g e).1)⟩
    · intro x y w1 cnt1 hpk hpd hrg1 hlt hgr hsz hen
      obtain ⟨af, cf, hf⟩ := HFS.out (x, y)
      rw [hf] at hen ⊢
      have HRG1 := Lib.hid hrg1
      have HB1 := Lib.hid (show Below w.heap.size w w1 from Below.grown HBEL.out hgr HBEL.out.size (fun g e => by cases e; omega))
      have HO1 := Lib.hid (own_grown HOWN.out hgr (fun g e => by
        cases e
        intro h
        obtain ⟨_, c2, fz2, hc2⟩ := own_row HOWN.out _ h
        exact (HRG.out.not_cells hc2).2 rfl))
      have HMW := Lib.hid HRG.out.left_eq
      have HLT := Lib.hid hlt
      have hwb := HB1.out.size
      have HLN := Lib.hid (show (done.filter q).length ≤ 1048576 from by
        obtain ⟨D, left, _, _, _, _, _, h6, h7⟩ := HRG.out
        have h8 : done.length ≤ ks.length := nodup_len h6 h7
        have h9 := List.length_filter_le q done
        omega)
      clear hrg1 hgr hlt HOWN HRG HBEL
      have HSN := Lib.hid (show (done ++ [(x, y)]).filter q = done.filter q ++ (if q (x, y) = true then [(x, y)] else []) from by rw [List.filter_append]; congr 1; simp [List.filter_cons])
      have HIS1 := Lib.hid (fun a c W => HIS.out (x, y) a c W)
      generalize (G (x, y)).length = m at *
      obtain ⟨L, hL⟩ : ∃ L, L = done.filter q := ⟨_, rfl⟩
      rw [← hL] at HLN HSN HO1
      clear hL
      cases hqp : q (x, y)
      · rw [hqp] at HIS1 HSN
        have HSN2 := Lib.hid (show (done ++ [(x, y)]).filter q = L from by rw [HSN.out]; simp)
        go_wp2_with (go_at_call 87; refine (HIS1.out _ _ _).mono ?_; rintro e w' ⟨rfl, rfl⟩)
        refine ⟨⟨done ++ [(x, y)], cnt1, HRG1.out.below (by repeat (first | exact Below.refl _ _ | refine Below.drew ?_ | refine Below.alloc ?_ (by first | exact Nat.le_refl _ | (simp; done) | (simp; omega) | omega) _ | refine Below.more ?_ (by first | exact Nat.le_refl _ | (simp; done) | (simp; omega) | omega) _ _ | refine Below.setCell ?_ (by first | exact Nat.le_refl _ | (simp; done) | (simp; omega) | omega) _ | assumption)), Below.trans HB1.out (by repeat (first | exact Below.refl _ _ | refine Below.drew ?_ | refine Below.alloc ?_ (by first | exact Nat.le_refl _ | (simp; done) | (simp; omega) | omega) _ | refine Below.more ?_ (by first | exact Nat.le_refl _ | (simp; done) | (simp; omega) | omega) _ _ | refine Below.setCell ?_ (by first | exact Nat.le_refl _ | (simp; done) | (simp; omega) | omega) _ | assumption)), by rw [HSN2.out]; exact own_kept HO1.out (by repeat (first | exact Below.refl _ _ | refine Below.drew ?_ | refine Below.alloc ?_ (by first | exact Nat.le_refl _ | (simp; done) | (simp; omega) | omega) _ | refine Below.more ?_ (by first | exact Nat.le_refl _ | (simp; done) | (simp; omega) | omega) _ _ | refine Below.setCell ?_ (by first | exact Nat.le_refl _ | (simp; done) | (simp; omega) | omega) _ | assumption))⟩, ?_⟩
        rw [(HRG1.out.below (show Below w1.heap.size w1 _ from (by repeat (first | exact Below.refl _ _ | refine Below.drew ?_ | refine Below.alloc ?_ (by first | exact Nat.le_refl _ | (simp; done) | (simp; omega) | omega) _ | refine Below.more ?_ (by first | exact Nat.le_refl _ | (simp; done) | (simp; omega) | omega) _ _ | refine Below.setCell ?_ (by first | exact Nat.le_refl _ | (simp; done) | (simp; omega) | omega) _ | assumption)))).left_eq, HMW.out]
        exact HLT.out
      · rw [hqp] at HIS1 HSN
        have HSN2 := Lib.hid (show (done ++ [(x, y)]).filter q = L ++ [(x, y)] from by rw [HSN.out]; simp)
        go_wp2_with (first | (go_at_call 87; refine (HIS1.out _ _ _).mono ?_; rintro e w' ⟨rfl, rfl⟩) | (at_builtin; go_loud (refine wpList_append_edge _ rfl _ _ rfl w.heap.size _ L rfl (own_kept HO1.out (by repeat (first | exact Below.refl _ _ | refine Below.drew ?_ | refine Below.alloc ?_ (by first | exact Nat.le_refl _ | (simp; done) | (simp; omega) | omega) _ | refine Below.more ?_ (by first | exact Nat.le_refl _ | (simp; done) | (simp; omega) | omega) _ _ | refine Below.setCell ?_ (by first | exact Nat.le_refl _ | (simp; done) | (simp; omega) | omega) _ | assumption))) _ 1 rfl (x, y) ?c1 ?c2 HLN.out ?c3 ?_)))
        case c3 => first | omega | (simp; omega)
        intro v' w' hp' hg' hloc'
        have HP' := Lib.hid hp'
        have HB' := Lib.hid (Below.grown (Below.trans HB1.out (show Below w.heap.size w1 _ from (by repeat (first | exact Below.refl _ _ | refine Below.drew ?_ | refine Below.alloc ?_ (by first | exact Nat.le_refl _ | (simp; done) | (simp; omega) | omega) _ | refine Below.more ?_ (by first | exact Nat.le_refl _ | (simp; done) | (simp; omega) | omega) _ _ | refine Below.setCell ?_ (by first | exact Nat.le_refl _ | (simp; done) | (simp; omega) | omega) _ | assumption)))) hg' (by first | omega | (simp; omega)) (fun b hb => (own_row HO1.out b hb).1))
        have HRG' := Lib.hid ((HRG1.out.below (show Below w1.heap.size w1 _ from (by repeat (first | exact Below.refl _ _ | refine Below.drew ?_ | refine Below.alloc ?_ (by first | exact Nat.le_refl _ | (simp; done) | (simp; omega) | omega) _ | refine Below.more ?_ (by first | exact Nat.le_refl _ | (simp; done) | (simp; omega) | omega) _ _ | refine Below.setCell ?_ (by first | exact Nat.le_refl _ | (simp; done) | (simp; omega) | omega) _ | assumption)))).kept hg' (fun e => by obtain ⟨_, c2, fz2, hc2⟩ := own_row HO1.out _ e.symm; exact (HRG1.out.not_cells hc2).1 rfl) (fun e => by obtain ⟨_, c2, fz2, hc2⟩ := own_row HO1.out _ e.symm; exact (HRG1.out.not_cells hc2).2 rfl))
        clear hp' hg' hloc'
        go_wp2
        refine ⟨⟨done ++ [(x, y)], cnt1, HRG'.out, HB'.out, by rw [HSN2.out, List.length_append, List.length_singleton]; exact HP'.out⟩, ?_⟩
        rw [HRG'.out.left_eq, HMW.out]
        exact HLT.out
set_option maxRecDepth 100000 in
set_option maxHeartbeats 2000000 in
theorem sorted_all (base b n : Nat) (ks : List (Int × Int)) (F : Int × Int → Value) (G : Int × Int → List Int) (w : World) (hg : Groups w base b n ks F G) (hn : ks.length ≤ 1048576) :
    Calls Tryz.prog 60 #[.map (some b), .func (.func 61) #[] #[]] w fun e w' => ∃ v, e = .returned v ∧ w'.ownsRow w.heap.size 56 2 v (sortE (ks.filter fun p => qAll (G p).length)).length (edgeVals (sortE (ks.filter fun p => qAll (G p).length))) ∧ Below w.heap.size w w' := by
  have HM := Lib.hid hg.m
  have hblt := hg.m.lt
  have HNK := Lib.hid (show ks.Nodup from by obtain ⟨D, _, _, _, _, _, h, _⟩ := hg.m; exact h)
  have HFS := Lib.hid (show ∀ p, ∃ a cap, F p = .slice a (G p).length cap from fun p => own_slice (hg.own p))
  obtain ⟨q, hq⟩ : ∃ q : Int × Int → Bool, q = fun p => qAll (G p).length := ⟨_, rfl⟩
  rw [← hq]
  have HIS := Lib.hid (show ∀ p a c W, Calls Tryz.prog 61 #[.slice a (G p).length c] W fun e w' => e = .returned (.bool (q p)) ∧ W = w' from fun p a c W => by rw [hq]; exact is_all a _ c W)
  obtain ⟨R, hR⟩ : ∃ R, R = sortE (ks.filter q) := ⟨_, rfl⟩
  rw [← hR]
  have HR := Lib.hid hR
  clear hg hq hR
  go_enter Tryz.func60, Tryz.ntmps60
  go_wp2_with (at_range; refine wpList_range_map _ rfl _ rfl b n ks F rfl (HM.out.kept (by repeat (first | exact Below.refl _ _ | refine Below.drew ?_ | refine Below.alloc ?_ (by first | exact Nat.le_refl _ | (simp; done) | (simp; omega) | omega) _ | refine Below.more ?_ (by first | exact Nat.le_refl _ | (simp; done) | (simp; omega) | omega) _ _ | refine Below.setCell ?_ (by first | exact Nat.le_refl _ | (simp; done) | (simp; omega) | omega) _ | assumption))) ?_; intro w0 cnt0 hrg0 hg0 hs0; rw [World.size_alloc] at hrg0 hs0 ⊢)
  go_frame
  have HRG0 := Lib.hid hrg0
  have HB0 := Lib.hid (show Below w.heap.size w w0 from Below.grown (Below.alloc (Below.refl _ _) (Nat.le_refl _) _) hg0 (by simp) (fun g e => by cases e))
  have HOW0 := Lib.hid (show w0.ownsRow w.heap.size 56 2 (.slice (some ⟨w.heap.size, 0, none⟩) 0 0) 0 [] from own_grown (by
      have hz := World.ownsRow_made (e := 56) (size := 2) (base := w.heap.size) w #[] 0 (by simp) (by decide) (by simp)
      simpa using hz) hg0 (fun b e => by cases e))
  clear hrg0 hg0 HM
  go_loopw [5] (fun out wr => ∃ (done : List (Int × Int)) (cnt : Nat), MapRg wr b (w.heap.size + 1) n ks F done cnt ∧ Below w.heap.size w wr ∧ wr.ownsRow w.heap.size 56 2 out (done.filter q).length (edgeVals (done.filter q))) (fun _ wr => wr.rangeLeft b (w.heap.size + 1))
  case atStart => exact ⟨[], cnt0, HRG0.out, HB0.out, HOW0.out⟩
  case round =>
    clear HRG0 HB0 HOW0 hs0
    obtain ⟨done, cnt, hrg, hbel, hown⟩ := hrel
    have HRG := Lib.hid hrg
    have HBEL := Lib.hid hbel
    have HOWN := Lib.hid hown
    clear hrg hbel hown
    go_wp2_with (at_next; refine wpList_next_map _ rfl _ rfl b (w.heap.size + 1) n ks F done cnt rfl HRG.out ?_ ?_)
    · intro hall
      have HALL := Lib.hid (show ∀ p, p ∈ ks → p ∈ done from fun ⟨a, b⟩ h => by first | exact hall _ h | exact hall a b h)
      have HL := Lib.hid (show sortE (done.filter q) = R from by
        rw [HR.out]
        obtain ⟨D, left, _, _, _, _, _, h6, h7⟩ := HRG.out
        refine sortE_congr (h6.filter _) (HNK.out.filter _) fun x => ?_
        rw [List.mem_filter, List.mem_filter]
        exact ⟨fun h => ⟨h7 x h.1, h.2⟩, fun h => ⟨HALL.out x h.1, h.2⟩⟩)
      have HLN := Lib.hid (show (done.filter q).length ≤ 1048576 from by
        obtain ⟨D, left, _, _, _, _, _, h6, h7⟩ := HRG.out
        have h8 : done.length ≤ ks.length := nodup_len h6 h7
        have h9 := List.length_filter_le q done
        omega)
      clear hall HALL
      obtain ⟨L, hL⟩ : ∃ L, L = done.filter q := ⟨_, rfl⟩
      rw [← hL] at HL HLN HOWN
      have HLE := Lib.hid (len_sortE L)
      clear hL
      go_wp2_with (go_at_call 81; refine (sortFunc_c w.heap.size _ L _ HOWN.out HLN.out).mono ?_; rintro e w1 ⟨rfl, ho1, hg1⟩; have HO1 := Lib.hid ho1; have HG1 := Lib.hid hg1; clear ho1 hg1)
      go_ret
      refine ⟨_, rfl, by rw [← HL.out, HLE.out]; exact HO1.out, Below.grown HBEL.out HG1.out HBEL.out.size (fun g e => (own_row HOWN.out g e).1)⟩
    · intro x y w1 cnt1 hpk hpd hrg1 hlt hgr hsz hen
      obtain ⟨af, cf, hf⟩ := HFS.out (x, y)
      rw [hf] at hen ⊢
      have HRG1 := Lib.hid hrg1
      have HB1 := Lib.hid (show Below w.heap.size w w1 from Below.grown HBEL.out hgr HBEL.out.size (fun g e => by cases e; omega))
      have HO1 := Lib.hid (own_grown HOWN.out hgr (fun g e => by
        cases e
        intro h
        obtain ⟨_, c2, fz2, hc2⟩ := own_row HOWN.out _ h
        exact (HRG.out.not_cells hc2).2 rfl))
      have HMW := Lib.hid HRG.out.left_eq
      have HLT := Lib.hid hlt
      have hwb := HB1.out.size
      have HLN := Lib.hid (show (done.filter q).length ≤ 1048576 from by
        obtain ⟨D, left, _, _, _, _, _, h6, h7⟩ := HRG.out
        have h8 : done.length ≤ ks.length := nodup_len h6 h7
        have h9 := List.length_filter_le q done
        omega)
      clear hrg1 hgr hlt HOWN HRG HBEL
      have HSN := Lib.hid (show (done ++ [(x, y)]).filter q = done.filter q ++ (if q (x, y) = true then [(x, y)] else []) from by rw [List.filter_append]; congr 1; simp [List.filter_cons])
      have HIS1 := Lib.hid (fun a c W => HIS.out (x, y) a c W)
      generalize (G (x, y)).length = m at *
      obtain ⟨L, hL⟩ : ∃ L, L = done.filter q := ⟨_, rfl⟩
      rw [← hL] at HLN HSN HO1
      clear hL
      cases hqp : q (x, y)
      · rw [hqp] at HIS1 HSN
        have HSN2 := Lib.hid (show (done ++ [(x, y)]).filter q = L from by rw [HSN.out]; simp)
        go_wp2_with (go_at_call 61; refine (HIS1.out _ _ _).mono ?_; rintro e w' ⟨rfl, rfl⟩)
        refine ⟨⟨done ++ [(x, y)], cnt1, HRG1.out.below (by repeat (first | exact Below.refl _ _ | refine Below.drew ?_ | refine Below.alloc ?_ (by first | exact Nat.le_refl _ | (simp; done) | (simp; omega) | omega) _ | refine Below.more ?_ (by first | exact Nat.le_refl _ | (simp; done) | (simp; omega) | omega) _ _ | refine Below.setCell ?_ (by first | exact Nat.le_refl _ | (simp; done) | (simp; omega) | omega) _ | assumption)), Below.trans HB1.out (by repeat (first | exact Below.refl _ _ | refine Below.drew ?_ | refine Below.alloc ?_ (by first | exact Nat.le_refl _ | (simp; done) | (simp; omega) | omega) _ | refine Below.more ?_ (by first | exact Nat.le_refl _ | (simp; done) | (simp; omega) | omega) _ _ | refine Below.setCell ?_ (by first | exact Nat.le_refl _ | (simp; done) | (simp; omega) | omega) _ | assumption)), by rw [HSN2.out]; exact own_kept HO1.out (by repeat (first | exact Below.refl _ _ | refine Below.drew ?_ | refine Below.alloc ?_ (by first | exact Nat.le_refl _ | (simp; done) | (simp; omega) | omega) _ | refine Below.more ?_ (by first | exact Nat.le_refl _ | (simp; done) | (simp; omega) | omega) _ _ | refine Below.setCell ?_ (by first | exact Nat.le_refl _ | (simp; done) | (simp; omega) | omega) _ | assumption))⟩, ?_⟩
        rw [(HRG1.out.below (show Below w1.heap.size w1 _ from (by repeat (first | exact Below.refl _ _ | refine Below.drew ?_ | refine Below.alloc ?_ (by first | exact Nat.le_refl _ | (simp; done) | (simp; omega) | omega) _ | refine Below.more ?_ (by first | exact Nat.le_refl _ | (simp; done) | (simp; omega) | omega) _ _ | refine Below.setCell ?_ (by first | exact Nat.le_refl _ | (simp; done) | (simp; omega) | omega) _ | assumption)))).left_eq, HMW.out]
        exact HLT.out
      · rw [hqp] at HIS1 HSN
        have HSN2 := Lib.hid (show (done ++ [(x, y)]).filter q = L ++ [(x, y)] from by rw [HSN.out]; simp)
        go_wp2_with (first | (go_at_call 61; refine (HIS1.out _ _ _).mono ?_; rintro e w' ⟨rfl, rfl⟩) | (at_builtin; go_loud (refine wpList_append_edge _ rfl _ _ rfl w.heap.size _ L rfl (own_kept HO1.out (by repeat (first | exact Below.refl _ _ | refine Below.drew ?_ | refine Below.alloc ?_ (by first | exact Nat.le_refl _ | (simp; done) | (simp; omega) | omega) _ | refine Below.more ?_ (by first | exact Nat.le_refl _ | (simp; done) | (simp; omega) | omega) _ _ | refine Below.setCell ?_ (by first | exact Nat.le_refl _ | (simp; done) | (simp; omega) | omega) _ | assumption))) _ 1 rfl (x, y) ?c1 ?c2 HLN.out ?c3 ?_)))
        case c3 => first | omega | (simp; omega)
        intro v' w' hp' hg' hloc'
        have HP' := Lib.hid hp'
        have HB' := Lib.hid (Below.grown (Below.trans HB1.out (show Below w.heap.size w1 _ from (by repeat (first | exact Below.refl _ _ | refine Below.drew ?_ | refine Below.alloc ?_ (by first | exact Nat.le_refl _ | (simp; done) | (simp; omega) | omega) _ | refine Below.more ?_ (by first | exact Nat.le_refl _ | (simp; done) | (simp; omega) | omega) _ _ | refine Below.setCell ?_ (by first | exact Nat.le_refl _ | (simp; done) | (simp; omega) | omega) _ | assumption)))) hg' (by first | omega | (simp; omega)) (fun b hb => (own_row HO1.out b hb).1))
        have HRG' := Lib.hid ((HRG1.out.below (show Below w1.heap.size w1 _ from (by repeat (first | exact Below.refl _ _ | refine Below.drew ?_ | refine Below.alloc ?_ (by first | exact Nat.le_refl _ | (simp; done) | (simp; omega) | omega) _ | refine Below.more ?_ (by first | exact Nat.le_refl _ | (simp; done) | (simp; omega) | omega) _ _ | refine Below.setCell ?_ (by first | exact Nat.le_refl _ | (simp; done) | (simp; omega) | omega) _ | assumption)))).kept hg' (fun e => by obtain ⟨_, c2, fz2, hc2⟩ := own_row HO1.out _ e.symm; exact (HRG1.out.not_cells hc2).1 rfl) (fun e => by obtain ⟨_, c2, fz2, hc2⟩ := own_row HO1.out _ e.symm; exact (HRG1.out.not_cells hc2).2 rfl))
        clear hp' hg' hloc'
        go_wp2
        refine ⟨⟨done ++ [(x, y)], cnt1, HRG'.out, HB'.out, by rw [HSN2.out, List.length_append, List.length_singleton]; exact HP'.out⟩, ?_⟩
        rw [HRG'.out.left_eq, HMW.out]
        exact HLT.out
end Go.Proofs.YtpfmcobkfofbjaaGreat
namespace Go.Proofs.YtpfmcobkfofbjaaGreat
open Go Go.RowKit Go.Maps
/-- The edges with one face. -/
def bndL (s : List (List Int)) (k : Nat) : List (Int × Int) := (edgesL s k).filter fun p => decide ((hitsTo s p k).length = 1)
theorem bndL_len (s : List (List Int)) (k : Nat) : (bndL s k).length ≤ 4 * k := Nat.le_trans (List.length_filter_le _ _) (edgesL_len s k)
theorem edgesL_le {s : List (List Int)} {k : Nat} (hk : k ≤ 64) : (edgesL s k).length ≤ 1048576 := by have := edgesL_len s k; omega
theorem bndL_le {s : List (List Int)} {k : Nat} (hk : k ≤ 64) : (bndL s k).length ≤ 1048576 := by have := bndL_len s k; omega
theorem sort_bnd (s : List (List Int)) (k : Nat) : sortE ((keysTo s k).filter fun p => qBnd (hitsTo s p k).length) = bndL s k := sortE_filter s k _
theorem sort_all (s : List (List Int)) (k : Nat) : sortE ((keysTo s k).filter fun p => qAll (hitsTo s p k).length) = edgesL s k := by
  rw [sortE_filter]
  exact List.filter_eq_self.2 fun _ _ => rfl
theorem own_base {w : World} {B base : Nat} {e : TypeId} {s : Nat} {v : Value} {n : Nat} {xs : List Value} (h : w.ownsRow B e s v n xs) (hb : base ≤ B) : w.ownsRow base e s v n xs :=
  ⟨h.1, h.2.imp id fun ⟨g, cap, cur, e1, hbg, r⟩ => ⟨g, cap, cur, e1, Nat.le_trans hb hbg, r⟩⟩
noncomputable def edgesD (p : MeshD) : List (Int × Int) := if meshOkB p then edgesL p.faces p.nF else []
noncomputable def bndD (p : MeshD) : List (Int × Int) := if meshOkB p then bndL p.faces p.nF else []
noncomputable def closedD (p : MeshD) : Bool := meshOkB p && decide (0 < p.nF) && decide ((bndD p).length = 0)
theorem edgesD_le (p : MeshD) : (edgesD p).length ≤ 256 := by
  unfold edgesD
  split
  · have := edgesL_len p.faces p.nF
    have := (meshOkB_true.1 (by assumption)).2.1
    omega
  · simp
theorem bndD_le (p : MeshD) : (bndD p).length ≤ 256 := by
  unfold bndD
  split
  · have := bndL_len p.faces p.nF
    have := (meshOkB_true.1 (by assumption)).2.1
    omega
  · simp
set_option maxRecDepth 100000 in
set_option maxHeartbeats 1000000 in
theorem impl_bnd_c (v : Value) (p : MeshD) (w : World) (hr : MeshR w v p) (hs : MeshSz 1048576 p) (hok : meshOk p) :
    Calls Tryz.prog 64 #[v] w fun e w' => ∃ u, e = .returned u ∧ w'.ownsRow (w.heap.size + 1) 56 2 u (bndL p.faces p.nF).length (edgeVals (bndL p.faces p.nF)) ∧ Below w.heap.size w w' := by
  have HT := Lib.hid (fun (W : World) (h : Below w.heap.size w W) => edgeTable_c v p W (hr.below h) hs hok)
  have HKL := Lib.hid (show (keysTo p.faces p.nF).length ≤ 1048576 from by rw [← edges_len]; exact edgesL_le hok.2.1)
  obtain ⟨a, c, a', c', rfl, _, _⟩ := hr
  obtain ⟨R, hR⟩ : ∃ R, R = bndL p.faces p.nF := ⟨_, rfl⟩
  rw [← hR]
  have HR := Lib.hid (hR.trans (sort_bnd p.faces p.nF).symm)
  clear hR hs hok
  go_enter Tryz.func64, Tryz.ntmps64
  go_wp2_with (first | (go_at_call 25; refine (HT.out _ (by repeat (first | exact Below.refl _ _ | refine Below.drew ?_ | refine Below.alloc ?_ (by first | exact Nat.le_refl _ | (simp; done) | (simp; omega) | omega) _ | refine Below.more ?_ (by first | exact Nat.le_refl _ | (simp; done) | (simp; omega) | omega) _ _ | refine Below.setCell ?_ (by first | exact Nat.le_refl _ | (simp; done) | (simp; omega) | omega) _ | assumption))).mono ?_; rintro e wn ⟨b, F, rfl, hg, hb0, hbn⟩; have HG := Lib.hid hg; have HBN := Lib.hid hbn; clear hg hbn) | (go_at_call 60; refine (sorted_bnd _ b _ _ F _ _ HG.out HKL.out).mono ?_; rintro e w2 ⟨u, rfl, ho, hb2⟩; have HO := Lib.hid ho; have HB2 := Lib.hid hb2; clear ho hb2))
  go_ret
  have hs1 := HBN.out.size
  simp only [World.size_alloc] at hs1
  exact ⟨u, rfl, by rw [HR.out]; exact own_base HO.out (by omega), Below.trans (Below.trans (show Below w.heap.size w _ from (by repeat (first | exact Below.refl _ _ | refine Below.drew ?_ | refine Below.alloc ?_ (by first | exact Nat.le_refl _ | (simp; done) | (simp; omega) | omega) _ | refine Below.more ?_ (by first | exact Nat.le_refl _ | (simp; done) | (simp; omega) | omega) _ _ | refine Below.setCell ?_ (by first | exact Nat.le_refl _ | (simp; done) | (simp; omega) | omega) _ | assumption))) (HBN.out.mono (by simp))) (HB2.out.mono (by omega))⟩
set_option maxRecDepth 100000 in
set_option maxHeartbeats 1000000 in
theorem impl_all_c (v : Value) (p : MeshD) (w : World) (hr : MeshR w v p) (hs : MeshSz 1048576 p) (hok : meshOk p) :
    Calls Tryz.prog 26 #[v] w fun e w' => ∃ u, e = .returned u ∧ w'.ownsRow (w.heap.size + 1) 56 2 u (edgesL p.faces p.nF).length (edgeVals (edgesL p.faces p.nF)) ∧ Below w.heap.size w w' := by
  have HT := Lib.hid (fun (W : World) (h : Below w.heap.size w W) => edgeTable_c v p W (hr.below h) hs hok)
  have HKL := Lib.hid (show (keysTo p.faces p.nF).length ≤ 1048576 from by rw [← edges_len]; exact edgesL_le hok.2.1)
  obtain ⟨a, c, a', c', rfl, _, _⟩ := hr
  obtain ⟨R, hR⟩ : ∃ R, R = edgesL p.faces p.nF := ⟨_, rfl⟩
  rw [← hR]
  have HR := Lib.hid (hR.trans (sort_all p.faces p.nF).symm)
  clear hR hs hok
  go_enter Tryz.func26, Tryz.ntmps26
  go_wp2_with (first | (go_at_call 25; refine (HT.out _ (by repeat (first | exact Below.refl _ _ | refine Below.drew ?_ | refine Below.alloc ?_ (by first | exact Nat.le_refl _ | (simp; done) | (simp; omega) | omega) _ | refine Below.more ?_ (by first | exact Nat.le_refl _ | (simp; done) | (simp; omega) | omega) _ _ | refine Below.setCell ?_ (by first | exact Nat.le_refl _ | (simp; done) | (simp; omega) | omega) _ | assumption))).mono ?_; rintro e wn ⟨b, F, rfl, hg, hb0, hbn⟩; have HG := Lib.hid hg; have HBN := Lib.hid hbn; clear hg hbn) | (go_at_call 60; refine (sorted_all _ b _ _ F _ _ HG.out HKL.out).mono ?_; rintro e w2 ⟨u, rfl, ho, hb2⟩; have HO := Lib.hid ho; have HB2 := Lib.hid hb2; clear ho hb2))
  go_ret
  have hs1 := HBN.out.size
  simp only [World.size_alloc] at hs1
  exact ⟨u, rfl, by rw [HR.out]; exact own_base HO.out (by omega), Below.trans (Below.trans (show Below w.heap.size w _ from (by repeat (first | exact Below.refl _ _ | refine Below.drew ?_ | refine Below.alloc ?_ (by first | exact Nat.le_refl _ | (simp; done) | (simp; omega) | omega) _ | refine Below.more ?_ (by first | exact Nat.le_refl _ | (simp; done) | (simp; omega) | omega) _ _ | refine Below.setCell ?_ (by first | exact Nat.le_refl _ | (simp; done) | (simp; omega) | omega) _ | assumption))) (HBN.out.mono (by simp))) (HB2.out.mono (by omega))⟩
theorem PairsIn.nilv {w : World} {lo hi : Nat} : PairsIn w lo hi (.slice none 0 0) [] (fun _ => none) :=
  ⟨World.ownsRow_nil _ _ _ _, fun b e => by simp [Value.ownBlock] at e, fun i hi => absurd hi (Nat.not_lt_zero _)⟩
theorem PairsIn.lower {w : World} {lo lo' hi : Nat} {v : Value} {L : List (Int × Int)} {A : Nat → Option Addr} (h : PairsIn w lo hi v L A) (hl : lo' ≤ lo) : PairsIn w lo' hi v L A :=
  ⟨own_base h.own hl, h.top, fun i hi => by obtain ⟨g, a, b, c, d⟩ := h.pair i hi; exact ⟨g, a, Nat.le_trans hl b, c, d⟩⟩
/-- Rows of pairs of one's own come back, no two one and the same. -/
def GivesPairs (w : World) (L : List (Int × Int)) (e : Ending) (w' : World) : Prop :=
  ∃ v A, e = .returned v ∧ PairsIn w' w.heap.size w'.heap.size v L A ∧ (∀ i j, i < j → j < L.length → A i ≠ A j) ∧ Below w.heap.size w w'
end Go.Proofs.YtpfmcobkfofbjaaGreat
