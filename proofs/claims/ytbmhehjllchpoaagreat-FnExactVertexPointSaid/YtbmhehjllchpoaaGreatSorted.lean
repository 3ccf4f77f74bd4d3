/- Sorted, with SortShelf ahead of it. -/
import Derived.Shelf.SlSortCmp.NoneTotal
import Derived.Test.YtbmhehjllchpoaaGreatProg
import Derived.Test.YtbmhehjllchpoaaGreatSortRow
import Derived.Test.YtbmhehjllchpoaaGreatEdgeTable
import Derived.Maps.RangeWalk
namespace Go.Proofs
open Go.Shelf
def Tryz.sortEdge_ren : Go.Shelf.Ren := ⟨fun | 6 => 76 | 15 => 75 | 14 => 93 | 28 => 91 | 29 => 92 | 20 => 100 | 21 => 101 | 22 => 102 | 23 => 103 | 24 => 104 | 25 => 105 | 26 => 106 | 27 => 107 | 46 => 109 | 47 => 96 | 48 => 97 | 49 => 110 | 50 => 111 | 57 => 112 | n => n, fun | 22 => 60 | 24 => 63 | 25 => 89 | 3 => 3 | 39 => 86 | 0 => 0 | 53 => 101 | 55 => 103 | 4 => 4 | 46 => 94 | 45 => 93 | 50 => 98 | 5 => 5 | 9 => 9 | 66 => 106 | 70 => 110 | 76 => 117 | 77 => 118 | n => n, fun | n => n⟩
theorem Tryz.sortEdge : SlLaysF0.n6 Tryz.prog Tryz.sortEdge_ren := {
  mixed := by kernel_rfl
  f6 := ⟨Tryz.f76.name, by decide, Tryz.func76.trans (congrArg some (by kernel_rfl))⟩
  f14 := ⟨Tryz.f93.name, by decide, Tryz.func93.trans (congrArg some (by kernel_rfl))⟩
  f15 := Tryz.func75.trans (congrArg some (by kernel_rfl))
  f20 := ⟨Tryz.f100.name, by decide, Tryz.func100.trans (congrArg some (by kernel_rfl))⟩
  f21 := ⟨Tryz.f101.name, by decide, Tryz.func101.trans (congrArg some (by kernel_rfl))⟩
  f22 := ⟨Tryz.f102.name, by decide, Tryz.func102.trans (congrArg some (by kernel_rfl))⟩
  f23 := ⟨Tryz.f103.name, by decide, Tryz.func103.trans (congrArg some (by kernel_rfl))⟩
  f24 := ⟨Tryz.f104.name, by decide, Tryz.func104.trans (congrArg some (by kernel_rfl))⟩
  f25 := ⟨Tryz.f105.name, by decide, Tryz.func105.trans (congrArg some (by kernel_rfl))⟩
  f26 := ⟨Tryz.f106.name, by decide, Tryz.func106.trans (congrArg some (by kernel_rfl))⟩
  f27 := ⟨Tryz.f107.name, by decide, Tryz.func107.trans (congrArg some (by kernel_rfl))⟩
  f28 := Tryz.func91.trans (congrArg some (by kernel_rfl))
  f29 := Tryz.func92.trans (congrArg some (by kernel_rfl))
  f46 := ⟨Tryz.f109.name, by decide, Tryz.func109.trans (congrArg some (by kernel_rfl))⟩
  f47 := Tryz.func96.trans (congrArg some (by kernel_rfl))
  f48 := Tryz.func97.trans (congrArg some (by kernel_rfl))
  f49 := ⟨Tryz.f110.name, by decide, Tryz.func110.trans (congrArg some (by kernel_rfl))⟩
  f50 := ⟨Tryz.f111.name, by decide, Tryz.func111.trans (congrArg some (by kernel_rfl))⟩
  f57 := ⟨Tryz.f112.name, by decide, Tryz.func112.trans (congrArg some (by kernel_rfl))⟩
  t0 := Tryz.underlying0
  a0 := Tryz.isAgg0
  z0 := Tryz.sizeOf0
  v0 := Tryz.zeroValue0
  t3 := Tryz.underlying3
  a3 := Tryz.isAgg3
  z3 := Tryz.sizeOf3
  v3 := Tryz.zeroValue3
  t4 := Tryz.underlying4
  a4 := Tryz.isAgg4
  z4 := Tryz.sizeOf4
  v4 := Tryz.zeroValue4
  t5 := Tryz.underlying5
  a5 := Tryz.isAgg5
  z5 := Tryz.sizeOf5
  v5 := Tryz.zeroValue5
  t9 := Tryz.underlying9
  a9 := Tryz.isAgg9
  z9 := Tryz.sizeOf9
  v9 := Tryz.zeroValue9
  t22 := Tryz.underlying60
  a22 := Tryz.isAgg60
  z22 := Tryz.sizeOf60
  v22 := Tryz.zeroValue60
  t25 := Tryz.underlying89
  a25 := Tryz.isAgg89
  z25 := Tryz.sizeOf89
  v25 := Tryz.zeroValue89
  t39 := Tryz.underlying86
  a39 := Tryz.isAgg86
  z39 := Tryz.sizeOf86
  v39 := Tryz.zeroValue86
  t45 := Tryz.underlying93
  a45 := Tryz.isAgg93
  z45 := Tryz.sizeOf93
  v45 := Tryz.zeroValue93
  t46 := Tryz.underlying94
  a46 := Tryz.isAgg94
  z46 := Tryz.sizeOf94
  v46 := Tryz.zeroValue94
  t50 := Tryz.underlying98
  a50 := Tryz.isAgg98
  z50 := Tryz.sizeOf98
  v50 := Tryz.zeroValue98
  t53 := Tryz.underlying101
  a53 := Tryz.isAgg101
  z53 := Tryz.sizeOf101
  v53 := Tryz.zeroValue101
  t55 := Tryz.underlying103
  a55 := Tryz.isAgg103
  z55 := Tryz.sizeOf103
  v55 := Tryz.zeroValue103
  t66 := Tryz.underlying106
  a66 := Tryz.isAgg106
  z66 := Tryz.sizeOf106
  v66 := Tryz.zeroValue106
  t70 := Tryz.underlying110
  a70 := Tryz.isAgg110
  z70 := Tryz.sizeOf110
  v70 := Tryz.zeroValue110
  t76 := Tryz.underlying117
  a76 := Tryz.isAgg117
  z76 := Tryz.sizeOf117
  v76 := Tryz.zeroValue117
  t77 := Tryz.underlying118
  a77 := Tryz.isAgg118
  z77 := Tryz.sizeOf118
  v77 := Tryz.zeroValue118 }
end Go.Proofs
namespace Go.Proofs.YtbmhehjllchpoaaGreat
open Go Go.RowKit Go.Maps Go.Sort
theorem cmpLays (blk off size : Nat) (w : World) : CmpLays Tryz.prog 77 #[] encE 2 cmpE blk off size w :=
  fun _ _ _ _ x y => cmpEdges_c x y _
set_option maxRecDepth 100000 in
/-- The library's sort, on a row of one's own. -/
theorem sortFunc_c (base : Nat) (v : Value) (L : List (Int × Int)) (w : World) (ho : w.ownsRow base 63 2 v L.length (edgeVals L)) (hn : L.length ≤ 1048576) :
    Calls Tryz.prog 76 #[v, .func (.func 77) #[] #[]] w fun e w' => e = .returned (.tuple #[]) ∧ w'.ownsRow base 63 2 v L.length (edgeVals (sortE L)) ∧ w.grownBy w' v.ownBlock := by
  have nil : ∀ (p : Option Addr) (cap : Nat), v = .slice p 0 cap → L.length = 0 → Calls Tryz.prog 76 #[v, .func (.func 77) #[] #[]] w fun e w' => e = .returned (.tuple #[]) ∧ w'.ownsRow base 63 2 v L.length (edgeVals (sortE L)) ∧ w.grownBy w' v.ownBlock := by
    intro p cap hv h0
    have hL : sortE L = L := by obtain rfl := List.length_eq_zero_iff.1 h0; exact List.mergeSort_nil
    subst hv
    have h := AnyF.slices_SortFunc_none Tryz.sortEdge p cap (.func (.func 77) #[] #[]) w
    change Calls Tryz.prog 76 _ _ _ at h
    refine h.mono ?_
    rintro e w' ⟨rfl, rfl⟩
    exact ⟨rfl, by rw [hL]; exact ho, ⟨rfl, rfl, rfl, Nat.le_refl _, fun _ _ _ => rfl⟩⟩
  have ho' := ho
  rcases ho.2 with ⟨rfl, h0⟩ | ⟨g, cap, cur, rfl, hb, hg, hnc, hcm, hcs, ht⟩
  · exact nil none 0 rfl h0
  · by_cases h0 : L.length = 0
    · exact nil (some ⟨g, 0, none⟩) cap (by rw [h0]) h0
    have eg : ∀ args w, (callFunc 77 args).run Tryz.prog w = .ok (.enter 77 args) w := enters_of Tryz.func77 (by kernel_rfl) rfl
    have hsz : (flatK encE 2 L.toArray).size = L.length * 2 := by simp
    have hH : HoldsK encE 2 w g 0 L.toArray := holds_flat hg (by rw [hsz, flat_edges]; exact ht)
    have h := AnyQ.slices_SortFunc_total Tryz.sortEdge 2 Tryz.isAgg63 Tryz.sizeOf63 encE (fun _ => rfl) (fun x v hv => by simp [encE] at hv; rcases hv with rfl | rfl <;> rfl) cmpE swo_cmpE 77 #[] g 0 cap L.toArray w eg (cmpLays g 0 _ w) hH (Array.getElem?_eq_some_iff.1 hg).1 (by simp; omega) cut_cmpE
    change Calls Tryz.prog 76 _ _ _ at h
    refine h.mono ?_
    rintro e w' ⟨rfl, n, os, rfl⟩
    have hs : (L.toArray.toList.mergeSort fun x y => !(ltOf cmpE) y x) = sortE L := by rw [ltOf_cmpE]; rfl
    rw [hs]
    refine ⟨rfl, ?_, ?_⟩
    · have hw := owns_flat (n := n) (os := os) (L := sortE L) (m := L.length) (len_sortE L) hb hg hnc hcm hcs
      exact hw
    · exact grownBy_flat _
set_option maxRecDepth 100000 in
set_option maxHeartbeats 1000000 in
/-- A key of the map is an edge. -/
theorem key_edge {key : Value} {kl : Lit} (h : keyOf Tryz.prog 63 key = some kl) : ∃ p : Int × Int, key = edgeV p := by
  unfold keyOf at h
  simp only [Tryz.underlying63] at h
  split at h
  · rename_i hc
    simp only [Bool.and_eq_true] at hc
    have hf := hc.2
    cases hl : Tryz.prog.keyLits (Tryz.prog.types.size + 1) 63 key.cells.toList with
    | none => rw [hl] at h; cases h
    | some ls =>
      clear h hc
      cases key with
      | agg cs =>
        simp only [Value.cells] at hl
        obtain ⟨m, hm⟩ : ∃ m, Tryz.prog.types.size + 1 = m + 2 := by
          have h0 : 0 < Tryz.prog.types.size := Nat.lt_of_le_of_lt (Nat.zero_le _) edge_row
          revert h0
          generalize Tryz.prog.types.size = s
          intro h0
          exact ⟨s - 1, by omega⟩
        rw [hm] at hl
        unfold Program.keyLits at hl
        simp only [Tryz.underlying63, edge_cells] at hl
        obtain ⟨l⟩ := cs
        simp only at hl
        split at hl
        · rename_i hc
          obtain ⟨hc1, _⟩ := hc
          match l, hc1 with
          | [a, b], _ =>
            have i1 : ∀ x z, Tryz.prog.keyLits (m + 1) 3 [x] = some z → ∃ n, x = .int .i64 n := fun x z hx => by
              unfold Program.keyLits at hx
              simp only [Tryz.underlying3] at hx
              cases x <;> simp at hx
              rename_i q n
              exact ⟨n, by rw [hx.1.1]⟩
            simp [int_cells] at hl
            cases ha : Tryz.prog.keyLits (m + 1) 3 [a] with
            | none => rw [ha] at hl; cases hl
            | some za =>
              cases hb : Tryz.prog.keyLits (m + 1) 3 [b] with
              | none => rw [ha, hb] at hl; cases hl
              | some zb =>
                obtain ⟨n1, rfl⟩ := i1 a za ha
                obtain ⟨n2, rfl⟩ := i1 b zb hb
                exact ⟨(n1, n2), rfl⟩
        · cases hl
      | _ => simp [Value.formed, Tryz.underlying63] at hf
  · cases h
/-- A range over the map: those of done have come, the others are still to come, cnt of them. -/
def MapRg (w : World) (b r n : Nat) (ks : List (Int × Int)) (F : Int × Int → Value) (done : List (Int × Int)) (cnt : Nat) : Prop :=
  ∃ (D : DataW Value) (left : Lit → Bool), w.ranges Tryz.prog 63 rawElem b r n D left cnt ∧ (∀ p kl, keyOf Tryz.prog 63 (edgeV p) = some kl → D.atKey kl (.held (.slice none 0 0)) = .held (F p)) ∧
    (∀ p kl, keyOf Tryz.prog 63 (edgeV p) = some kl → left kl = true → p ∈ ks ∧ p ∉ done) ∧ (∀ p kl, keyOf Tryz.prog 63 (edgeV p) = some kl → p ∈ ks → p ∉ done → left kl = true) ∧
    (∀ p ∈ ks, wfE p) ∧ done.Nodup ∧ ∀ p ∈ done, p ∈ ks
theorem MapRg.kept {w w' : World} {b r n cnt : Nat} {ks done : List (Int × Int)} {F : Int × Int → Value} {row : Option Nat} (h : MapRg w b r n ks F done cnt) (hg : w.grownBy w' row) (h1 : some b ≠ row) (h2 : some r ≠ row) : MapRg w' b r n ks F done cnt := by
  obtain ⟨D, left, h3, h4⟩ := h
  exact ⟨D, left, h3.kept hg h1 h2, h4⟩
theorem MapRg.below {w w' : World} {b r n cnt : Nat} {ks done : List (Int × Int)} {F : Int × Int → Value} (h : MapRg w b r n ks F done cnt) (hb : Below w.heap.size w w') : MapRg w' b r n ks F done cnt := h.kept (grownBy_of_below hb) (by simp) (by simp)
theorem MapRg.lt {w : World} {b r n cnt : Nat} {ks done : List (Int × Int)} {F : Int × Int → Value} (h : MapRg w b r n ks F done cnt) : b < w.heap.size ∧ r < w.heap.size := by
  obtain ⟨D, left, h3, h4⟩ := h
  exact ⟨h3.owns.lt, h3.lt⟩
theorem MapRg.left_eq {w : World} {b r n cnt : Nat} {ks done : List (Int × Int)} {F : Int × Int → Value} (h : MapRg w b r n ks F done cnt) : w.rangeLeft b r = cnt := by
  obtain ⟨D, left, h3, h4⟩ := h
  exact h3.left_eq
theorem MapRg.not_cells {w : World} {b r n cnt : Nat} {ks done : List (Int × Int)} {F : Int × Int → Value} (h : MapRg w b r n ks F done cnt) {g : Nat} {cs : Array Value} {e : TypeId} {fz : Nat × Nat} (hc : w.heap[g]? = some (.cells cs e fz)) : g ≠ b ∧ g ≠ r := by
  obtain ⟨D, left, ⟨es, clock, since, seen, c0, h1, _, _, _, h2, _⟩, h4⟩ := h
  refine ⟨fun e => ?_, fun e => ?_⟩
  · rw [e, h1] at hc; cases hc
  · rw [e, h2] at hc; cases hc
theorem wpList_range_map (w : World) {ops : Array Oper} {rest : List Oper} {o : Oper} {a : Act} {Q : Exit → Act → World → Prop} (hg : o.guard = none) (m : Operand) (hop : o.op = Op.range 75 m) (b n : Nat) (ks : List (Int × Int)) (F : Int × Int → Value)
    (hm : a.eval m = .map (some b)) (h : MapV w b n ks F)
    (hK : ∀ w' cnt, MapRg w' b w.heap.size n ks F [] cnt → w.grownBy w' none → w'.heap.size = w.heap.size + 1 → wpList Tryz.prog ops Q rest (a.put o.dst (.pointer (some ⟨w.heap.size, 0, none⟩))) w') :
    wpList Tryz.prog ops Q (o :: rest) a w := by
  obtain ⟨D, h1, h2, h3, h4, h5, h6, h7⟩ := h
  refine wpList_range_own w hg m _ hop 63 41 edge_law Tryz.underlying75 rawElem b n D hm h1 ?_
  intro w' hr hgr hsz
  refine hK w' _ ⟨D, _, hr, h2, fun p kl hk hl => ?_, fun p kl hk hp _ => ?_, h7, List.nodup_nil, by simp⟩ hgr hsz
  · rw [h4 p kl hk] at hl
    exact ⟨by simpa using hl, by simp⟩
  · rw [h4 p kl hk]
    simpa using hp
theorem wpList_next_map (w : World) {ops : Array Oper} {rest : List Oper} {o : Oper} {a : Act} {Q : Exit → Act → World → Prop} (hg : o.guard = none) (it : Operand) (hop : o.op = Op.next it false) (b r n : Nat) (ks : List (Int × Int)) (F : Int × Int → Value) (done : List (Int × Int)) (cnt : Nat)
    (hit : a.eval it = .pointer (some ⟨r, 0, none⟩)) (h : MapRg w b r n ks F done cnt)
    (hDone : (∀ p, p ∈ ks → p ∈ done) → wpList Tryz.prog ops Q rest (a.put o.dst (.tuple #[.bool false])) w)
    (hMore : ∀ (p : Int × Int) (w' : World) (cnt' : Nat), p ∈ ks → p ∉ done → MapRg w' b r n ks F (done ++ [p]) cnt' → cnt' < cnt → w.grownBy w' (some r) → w'.heap.size = w.heap.size →
      (Instr.entry (.pointer (some ⟨r, 0, none⟩))).run Tryz.prog w' = .ok (.tuple #[edgeV p, F p]) w' → wpList Tryz.prog ops Q rest (a.put o.dst (.tuple #[.bool true, edgeV p, F p])) w') :
    wpList Tryz.prog ops Q (o :: rest) a w := by
  obtain ⟨D, left, h1, h2, h3, h4, h5, h6, h7⟩ := h
  refine wpList_next_ranges w hg it hop 63 edge_law rawElem (edgeV : Int × Int → Value) (fun v : Value => v) (fun key kl hk => key_edge hk) (fun v y _ => ⟨v, rfl⟩) b r n D left cnt hit h1 ?_ ?_
  · intro _ hl
    refine hDone fun p hp => ?_
    obtain ⟨kl, hk⟩ := edge_key (h5 p hp)
    by_cases hd : p ∈ done
    · exact hd
    · have := h4 p kl hk hp hd
      rw [hl kl] at this; cases this
  · intro p c kl y w' cnt' hk hl hv hat hr hlt hgr hsz hen
    obtain ⟨e1, e2⟩ := h3 p kl hk hl
    have hc : c = F p := by
      have e3 := hat (.held (.slice none 0 0))
      rw [h2 p kl hk] at e3
      simp only [rawElem, Option.some.injEq] at hv
      rw [← hv] at e3
      simp only [DataW.held.injEq] at e3
      exact e3.symm
    subst hc
    have hkk := edge_law.key hk
    refine hMore p w' cnt' e1 e2 ⟨D, _, hr, h2, fun q kq hq hlq => ?_, fun q kq hq hqk hqd => ?_, h5, nodup_snoc h6 e2, fun q hq => ?_⟩ hlt hgr hsz hen
    · simp only [Bool.and_eq_true, Bool.not_eq_true'] at hlq
      obtain ⟨e3, e4⟩ := h3 q kq hq hlq.1
      refine ⟨e3, fun hm => ?_⟩
      rcases List.mem_append.1 hm with hm | hm
      · exact e4 hm
      · simp only [List.mem_singleton] at hm
        subst hm
        have : kq = kl := by rw [hk] at hq; exact (Option.some.inj hq).symm
        subst this
        have h9 := hlq.2
        rw [WideAt.sameKey_self hkk] at h9
        cases h9
    · have hne : q ≠ p := fun e => hqd (by rw [e]; simp)
      have h8 := h4 q kq hq hqk (fun hm => hqd (List.mem_append_left _ hm))
      have hnk : kq ≠ kl := fun e => hne (edge_inj hq (e ▸ hk))
      rw [h8]
      simp only [Bool.true_and, Bool.not_eq_true']
      exact sameKey_ne hnk
    · rcases List.mem_append.1 hq with hm | hm
      · exact h7 q hm
      · simp only [List.mem_singleton] at hm; rw [hm]; exact e1
end Go.Proofs.YtbmhehjllchpoaaGreat
