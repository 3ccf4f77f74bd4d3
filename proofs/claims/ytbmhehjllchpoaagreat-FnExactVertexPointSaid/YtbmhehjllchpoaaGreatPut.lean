/- Contract of the reference's l06Put: a pair put in its place. -/
import Derived.Test.YtbmhehjllchpoaaGreatPairsB
import Derived.Test.YtbmhehjllchpoaaGreatEdgeMath
namespace Go.Proofs.YtbmhehjllchpoaaGreat
open Go Go.RowKit
def joinA (A B : Nat → Option Addr) (n : Nat) : Nat → Option Addr := fun i => if i < n then A i else B (i - n)
theorem slices2_join (A B : Nat → Option Addr) (n m : Nat) : slices2 A n ++ slices2 B m = slices2 (joinA A B n) (n + m) := by
  unfold slices2
  rw [List.range_add, List.map_append, List.map_map]
  congr 1
  · exact List.map_congr_left fun i hi => by simp [joinA, List.mem_range.1 hi]
  · exact List.map_congr_left fun i hi => by simp [joinA]; intro h; omega
/-- A row gets more pairs, out of another row. -/
theorem wpList_append_pairsIn (w : World) {ops : Array Oper} {rest : List Oper} {o : Oper} {a : Act} {Q : Exit → Act → World → Prop} (hgd : o.guard = none) (s x : Operand)
    (ho : o.op = .call { callee := .builtin .append, args := #[s, x], argTypes := #[23, 23] }) (lo : Nat) (v : Value) (L : List (Int × Int)) (A : Nat → Option Addr) (hs : a.eval s = v) (h : PairsIn w lo w.heap.size v L A)
    (ad : Addr) (c m : Nat) (M : List (Int × Int)) (B : Nat → Option Addr) (hm : M.length = m) (hx : a.eval x = .slice (some ad) m c) (hn : ∀ j, j < m → w.cell? (ad.add j) = some (.slice (B j) 2 2)) (hp : ∀ j, j < m → PairIn w lo w.heap.size (B j) (M.getD j (0, 0)))
    (hl : L.length ≤ 1048576) (hm2 : m ≤ 1048576) (hbase : lo ≤ w.heap.size)
    (hK : ∀ v' w' A', PairsIn w' lo w'.heap.size v' (L ++ M) A' → w.grownBy w' v.ownBlock → (v'.ownBlock = v.ownBlock ∨ v'.ownBlock = some w.heap.size) → wpList Tryz.prog ops Q rest (a.put o.dst v') w') :
    wpList Tryz.prog ops Q (o :: rest) a w := by
  obtain ⟨i0, hi, hz0, hz1, hz2⟩ := info_parts info_IntS
  have hrow := own_row h.own
  refine wpList_append_own_at w hgd s x 23 ho lo 41 i0 _ 1 24 Tryz.underlying23 hi hz0 hz1 hz2 rfl (by decide) v L.length _ hs h.own ad m c (slices2 B m) hx (by simp [slices2]) ?_ ?_ (by simp only [maxLen]; omega) (by omega) hbase ?_
  · intro j u hu
    have hj : j < m := by
      have := (List.getElem?_eq_some_iff.1 hu).1
      simpa [slices2] using this
    have : (slices2 B m)[j]? = some (.slice (B j) 2 2) := by simp [slices2, hj]
    rw [this] at hu
    rw [← Option.some.inj hu]
    exact hn j hj
  · intro u hu
    obtain ⟨i, _, rfl⟩ := List.mem_map.1 hu
    rfl
  intro v' w' ho' hg hnil hloc
  refine hK v' w' (joinA A B L.length) ⟨?_, fun b hb => ?_, fun i hi' => ?_⟩ hg hloc
  · rw [List.length_append, hm, ← slices2_join]
    exact ho'
  · obtain ⟨_, c, fz, h2⟩ := own_row ho' b hb
    exact (Array.getElem?_eq_some_iff.1 h2).1
  · rw [List.length_append, hm] at hi'
    by_cases e : i < L.length
    · rw [show joinA A B L.length i = A i by simp [joinA, e], show (L ++ M).getD i (0, 0) = L.getD i (0, 0) by simp [List.getD_eq_getElem?_getD, List.getElem?_append_left e]]
      exact ((h.pair i e).grown hg (fun b hb => Or.inl (hrow b hb).2)).mono hg.size
    · rw [show joinA A B L.length i = B (i - L.length) by simp [joinA, e], show (L ++ M).getD i (0, 0) = M.getD (i - L.length) (0, 0) by simp [List.getD_eq_getElem?_getD, List.getElem?_append_right (Nat.le_of_not_lt e)]]
      exact ((hp (i - L.length) (by omega)).grown hg (fun b hb => Or.inl (hrow b hb).2)).mono hg.size
theorem l01Min_c (x y : Int) (w : World) : Calls Tryz.prog 52 #[.int .i64 x, .int .i64 y] w fun e w' => e = .returned (.int .i64 (min x y)) ∧ w = w' := by
  go_enter Tryz.func52, Tryz.ntmps52
  go_wp2
  all_goals (go_ret; refine ⟨ret_int ?_, rfl⟩; omega)
theorem l01Max_c (x y : Int) (w : World) : Calls Tryz.prog 53 #[.int .i64 x, .int .i64 y] w fun e w' => e = .returned (.int .i64 (max x y)) ∧ w = w' := by
  go_enter Tryz.func53, Tryz.ntmps53
  go_wp2
  all_goals (go_ret; refine ⟨ret_int ?_, rfl⟩; omega)
set_option maxRecDepth 100000 in
set_option maxHeartbeats 2000000 in
theorem l06Put_c (lo : Nat) (v : Value) (L : List (Int × Int)) (A : Nat → Option Addr) (x y : Int) (w : World) (h : PairsIn w lo w.heap.size v L A) (hnn : v ≠ .slice none 0 0) (hl : L.length ≤ 100000) (hlo : lo ≤ w.heap.size) :
    Calls Tryz.prog 35 #[v, .int .i64 x, .int .i64 y] w fun e w' => ∃ v' A', e = .returned v' ∧ PairsIn w' lo w'.heap.size v' (putE L (x, y)) A' ∧ v' ≠ .slice none 0 0 ∧ Below w.heap.size w w' := by
  have HPS := Lib.hid h
  obtain ⟨R, hR⟩ : ∃ R, R = putE L (x, y) := ⟨_, rfl⟩
  have HR := Lib.hid (show ∀ k, k ≤ L.length → (∀ i, i < k → ltE (L.getD i (0, 0)) (x, y) = true) → (k < L.length → ltE (L.getD k (0, 0)) (x, y) = false) → R = if k < L.length ∧ L.getD k (0, 0) = (x, y) then L else L.take k ++ (x, y) :: L.drop k from fun k h1 h2 h3 => hR.trans (putE_at h1 h2 h3))
  rw [← hR]
  clear hR
  obtain ⟨g, cap, hv, hnc⟩ : ∃ g cap, v = .slice (some ⟨g, 0, none⟩) L.length cap ∧ L.length ≤ cap := by
    rcases h.own.2 with ⟨e, _⟩ | ⟨g, cap, cur, rfl, _, _, hnc, _⟩
    · exact absurd e hnn
    · exact ⟨g, cap, rfl, hnc⟩
  subst hv
  have HOB := Lib.hid (show lo ≤ g ∧ g < w.heap.size from by
    obtain ⟨h1, c, fz, h2⟩ := own_row h.own g rfl
    exact ⟨h1, (Array.getElem?_eq_some_iff.1 h2).1⟩)
  clear h hnn
  generalize hn : L.length = n at *
  have HN := Lib.hid hn
  clear hn
  have HRD := Lib.hid (show ∀ i, i < n → ∃ u, A i = some ⟨u, 0, none⟩ ∧ u < w.heap.size ∧ w.cell? ⟨g, i, none⟩ = some (.slice (some ⟨u, 0, none⟩) 2 2) ∧ w.cell? ⟨u, 0, none⟩ = some (.int .i64 (L.getD i (0, 0)).1) ∧ w.cell? ⟨u, 1, none⟩ = some (.int .i64 (L.getD i (0, 0)).2) from fun i hi => by
    obtain ⟨g2, cap2, u, hv, hu, _, hus, c0, c1, c2⟩ := HPS.out.read (i := i) (by rw [HN.out]; exact hi)
    simp only [Value.slice.injEq, Option.some.injEq, Addr.mk.injEq, and_true] at hv
    obtain ⟨rfl, _⟩ := hv
    exact ⟨u, hu, hus, c0, c1, c2⟩)
  go_enter Tryz.func35, Tryz.ntmps35
  go_wp2
  go_loopw [7] (fun i wr => ∃ (k : Nat), k ≤ n ∧ i = .int .i64 k ∧ wr = w ∧ Hid (∀ i, i < k → ltE (L.getD i (0, 0)) (x, y) = true)) (fun i _ => n - (intOf i).toNat)
  case atStart => exact ⟨0, by omega, rfl, rfl, Lib.hid (fun i hi => absurd hi (Nat.not_lt_zero _))⟩
  case round =>
    obtain ⟨k, hk, rfl, rfl, HLT⟩ := hrel
    by_cases hlt : k < n
    · have hk1 : (k : Int) < (n : Int) := by omega
      obtain ⟨u, hu, hus, c0, c1, c2⟩ := HRD.out k hlt
      have HGO := Lib.hid (show ltE (L.getD k (0, 0)) (x, y) = true → ∀ i, i < k + 1 → ltE (L.getD i (0, 0)) (x, y) = true from fun h i hi => by
        by_cases e : i = k
        · subst e; exact h
        · exact HLT.out i (by omega))
      have HST := Lib.hid (show ltE (L.getD k (0, 0)) (x, y) = false → R = if L.getD k (0, 0) = (x, y) then L else L.take k ++ (x, y) :: L.drop k from fun h => by
        have := HR.out k hk HLT.out (fun _ => h)
        rw [this]; simp [hlt])
      generalize L.getD k (0, 0) = p at *
      obtain ⟨x', y'⟩ := p
      dsimp only at c1 c2
      by_cases h1 : x' < x
      · have HG := Lib.hid (HGO.out (by rw [ltE_iff]; exact .inl h1))
        go_wp2
        exact ⟨⟨k + 1, by omega, by first | rfl | go_num, by first | rfl | trivial, HG⟩, by simp only [intOf]; omega⟩
      · by_cases h2 : x' = x
        · have h2' := h2.symm
          subst h2'
          have b2 : (x == x) = true := by simp
          by_cases h3 : y' < y
          · have HG := Lib.hid (HGO.out (by rw [ltE_iff]; exact .inr ⟨rfl, h3⟩))
            go_wp2
            exact ⟨⟨k + 1, by omega, by first | rfl | go_num, by first | rfl | trivial, HG⟩, by simp only [intOf]; omega⟩
          · by_cases h4 : y' = y
            · have h4' := h4.symm
              subst h4'
              have b3 : (y == y) = true := by simp
              have HE := Lib.hid (show R = L from by rw [HST.out (by rw [← Bool.not_eq_true, ltE_iff]; first | (simp; done) | (simp; omega))]; simp)
              go_wp2
              go_ret
              exact ⟨_, rfl, ⟨A, by rw [HE.out]; exact HPS.out⟩, by simp, Below.refl _ _⟩
            · have b3 : (y' == y) = false := by simpa using h4
              have HE := Lib.hid (show R = L.take k ++ (x, y) :: L.drop k from by rw [HST.out (by rw [← Bool.not_eq_true, ltE_iff]; first | (simp; done) | (simp; omega)), if_neg (by simp; exact h4)])
              obtain ⟨T, hT⟩ : ∃ T, T = L.take k := ⟨_, rfl⟩
              obtain ⟨D, hD⟩ : ∃ D, D = L.drop k := ⟨_, rfl⟩
              rw [← hT, ← hD] at HE
              have HTL := Lib.hid (show T.length = k from by rw [hT, List.length_take, HN.out]; omega)
              have HDL := Lib.hid (show D.length = n - k from by rw [hD, List.length_drop, HN.out])
              have HTG := Lib.hid (show ∀ j, j < k → T.getD j (0, 0) = L.getD j (0, 0) from fun j hj => by rw [hT]; simp [List.getD_eq_getElem?_getD, List.getElem?_take, hj])
              have HDG := Lib.hid (show ∀ j, D.getD j (0, 0) = L.getD (k + j) (0, 0) from fun j => by rw [hD]; simp [List.getD_eq_getElem?_getD, List.getElem?_drop])
              clear hT hD
              have hkc : k ≤ cap := by omega
              go_wp2_with (at_builtin; go_loud (refine wpList_append_pairsIn _ rfl _ _ rfl lo _ [] (fun _ => none) rfl ?a11 _ _ k T A ?a21 rfl ?a31 ?a41 ?a51 ?a61 ?a71 ?_))
              case a11 => exact PairsIn.nil hlo (by simp) (heap_at_new rfl)
              case a21 => exact HTL.out
              case a31 =>
                intro j hj
                obtain ⟨u, hu, _, c, _⟩ := HRD.out j (by omega)
                (try rw [show (⟨g, 0, none⟩ : Addr).add j = ⟨g, j, none⟩ by (simp [Addr.add]; try omega)])
                rw [hu]
                exact cell_below (by repeat (first | exact Below.refl _ _ | refine Below.drew ?_ | refine Below.alloc ?_ (by first | exact Nat.le_refl _ | (simp; done) | (simp; omega) | omega) _ | refine Below.more ?_ (by first | exact Nat.le_refl _ | (simp; done) | (simp; omega) | omega) _ _ | refine Below.setCell ?_ (by first | exact Nat.le_refl _ | (simp; done) | (simp; omega) | omega) _ | assumption)) c
              case a41 =>
                intro j hj
                rw [← List.getD_eq_getElem?_getD, HTG.out j hj]
                exact (((HPS.out.below (show Below wr.heap.size wr _ from (by repeat (first | exact Below.refl _ _ | refine Below.drew ?_ | refine Below.alloc ?_ (by first | exact Nat.le_refl _ | (simp; done) | (simp; omega) | omega) _ | refine Below.more ?_ (by first | exact Nat.le_refl _ | (simp; done) | (simp; omega) | omega) _ _ | refine Below.setCell ?_ (by first | exact Nat.le_refl _ | (simp; done) | (simp; omega) | omega) _ | assumption)))).mono (by simp)).pair j (by rw [HN.out]; omega))
              case a61 => omega
              case a71 => first | omega | (simp; omega)
              intro v1 w1 A1 hp1 hg1 hloc1
              have HP1 := Lib.hid hp1
              have HB1 := Lib.hid (Below.grown (show Below wr.heap.size wr _ from (by repeat (first | exact Below.refl _ _ | refine Below.drew ?_ | refine Below.alloc ?_ (by first | exact Nat.le_refl _ | (simp; done) | (simp; omega) | omega) _ | refine Below.more ?_ (by first | exact Nat.le_refl _ | (simp; done) | (simp; omega) | omega) _ _ | refine Below.setCell ?_ (by first | exact Nat.le_refl _ | (simp; done) | (simp; omega) | omega) _ | assumption))) hg1 (by simp) (fun b hb => by simp only [Value.ownBlock, Option.some.injEq] at hb; omega))
              have HZ1 := Lib.hid (show ∀ b, v1.ownBlock = some b → wr.heap.size ≤ b from fun b hb => by
                rcases hloc1 with h | h
                · rw [h] at hb; simp only [Value.ownBlock, Option.some.injEq] at hb; omega
                · rw [h] at hb; simp at hb; omega)
              have hs1 := HB1.out.size
              clear hp1 hg1 hloc1
              go_wp2_with (at_builtin; go_loud (refine wpList_append_pairIn _ rfl _ _ rfl lo _ T A1 rfl ((HP1.out.below (by repeat (first | exact Below.refl _ _ | refine Below.drew ?_ | refine Below.alloc ?_ (by first | exact Nat.le_refl _ | (simp; done) | (simp; omega) | omega) _ | refine Below.more ?_ (by first | exact Nat.le_refl _ | (simp; done) | (simp; omega) | omega) _ _ | refine Below.setCell ?_ (by first | exact Nat.le_refl _ | (simp; done) | (simp; omega) | omega) _ | assumption))).mono (by simp; omega)) _ 1 rfl w1.heap.size ?b21 (x, y) ?b31 ?b41 ?b51 ?_))
              case b21 => simp [go_sem]
              case b31 => exact ⟨_, rfl, by omega, by first | omega | (simp; done) | (simp; omega), (heap_alloc_old _ _ (by simp)).trans (heap_alloc_new _ _)⟩
              case b41 => rw [HTL.out]; omega
              case b51 => first | omega | (simp; omega)
              intro v2 w2 hp2 hg2 hloc2 hrow2
              have HP2 := Lib.hid hp2
              have HB2 := Lib.hid (Below.grown (Below.trans HB1.out (show Below wr.heap.size w1 _ from (by repeat (first | exact Below.refl _ _ | refine Below.drew ?_ | refine Below.alloc ?_ (by first | exact Nat.le_refl _ | (simp; done) | (simp; omega) | omega) _ | refine Below.more ?_ (by first | exact Nat.le_refl _ | (simp; done) | (simp; omega) | omega) _ _ | refine Below.setCell ?_ (by first | exact Nat.le_refl _ | (simp; done) | (simp; omega) | omega) _ | assumption)))) hg2 (by first | omega | (simp; omega)) (fun b hb => HZ1.out b hb))
              have HZ2 := Lib.hid (show ∀ b, v2.ownBlock = some b → wr.heap.size ≤ b from fun b hb => by
                rcases hloc2 with h | h
                · exact HZ1.out b (h ▸ hb)
                · rw [h] at hb; simp at hb; omega)
              have hs2 := HB2.out.size
              clear hp2 hg2 hloc2 hrow2
              go_wp2_with (at_builtin; go_loud (refine wpList_append_pairsIn _ rfl _ _ rfl lo _ (T ++ [(x, y)]) _ rfl HP2.out _ _ (n - k) D (fun j => A (k + j)) ?d21 rfl ?d31 ?d41 ?d51 ?d61 ?d71 ?_))
              case d21 => exact HDL.out
              case d31 =>
                intro j hj
                obtain ⟨u, hu, _, c, _⟩ := HRD.out (k + j) (by omega)
                (try rw [show (⟨g, k, none⟩ : Addr).add j = ⟨g, k + j, none⟩ by (simp [Addr.add]; try omega)])
                rw [hu]
                first | exact cell_below HB2.out c | (exfalso; have := HKN.out; omega)
              case d41 =>
                intro j hj
                (try rw [← List.getD_eq_getElem?_getD])
                rw [HDG.out j]
                exact (((HPS.out.below HB2.out).mono hs2).pair (k + j) (by rw [HN.out]; omega))
              case d51 => rw [List.length_append, HTL.out]; first | (simp; done) | (simp; omega)
              case d61 => omega
              case d71 => omega
              intro v3 w3 A3 hp3 hg3 hloc3
              have HP3 := Lib.hid hp3
              have HB3 := Lib.hid (Below.grown HB2.out hg3 hs2 (fun b hb => HZ2.out b hb))
              clear hp3 hg3 hloc3
              go_wp2
              go_ret
              refine ⟨v3, A3, rfl, by rw [HE.out]; exact HP3.out, fun e => ?_, HB3.out⟩
              have h := HP3.out.own
              rw [e] at h
              have h0 := h.1
              rcases h.2 with ⟨_, h1⟩ | ⟨g', cap', cur, h1, _⟩
              · simp at h1
              · cases h1
        · have b2 : (x' == x) = false := by simpa using h2
          have HE := Lib.hid (show R = L.take k ++ (x, y) :: L.drop k from by rw [HST.out (by rw [← Bool.not_eq_true, ltE_iff]; first | (simp; done) | (simp; omega)), if_neg (by simp; intro e; exact absurd e h2)])
          obtain ⟨T, hT⟩ : ∃ T, T = L.take k := ⟨_, rfl⟩
          obtain ⟨D, hD⟩ : ∃ D, D = L.drop k := ⟨_, rfl⟩
          rw [← hT, ← hD] at HE
          have HTL := Lib.hid (show T.length = k from by rw [hT, List.length_take, HN.out]; omega)
          have HDL := Lib.hid (show D.length = n - k from by rw [hD, List.length_drop, HN.out])
          have HTG := Lib.hid (show ∀ j, j < k → T.getD j (0, 0) = L.getD j (0, 0) from fun j hj => by rw [hT]; simp [List.getD_eq_getElem?_getD, List.getElem?_take, hj])
          have HDG := Lib.hid (show ∀ j, D.getD j (0, 0) = L.getD (k + j) (0, 0) from fun j => by rw [hD]; simp [List.getD_eq_getElem?_getD, List.getElem?_drop])
          clear hT hD
          have hkc : k ≤ cap := by omega
          go_wp2_with (at_builtin; go_loud (refine wpList_append_pairsIn _ rfl _ _ rfl lo _ [] (fun _ => none) rfl ?a12 _ _ k T A ?a22 rfl ?a32 ?a42 ?a52 ?a62 ?a72 ?_))
          case a12 => exact PairsIn.nil hlo (by simp) (heap_at_new rfl)
          case a22 => exact HTL.out
          case a32 =>
            intro j hj
            obtain ⟨u, hu, _, c, _⟩ := HRD.out j (by omega)
            (try rw [show (⟨g, 0, none⟩ : Addr).add j = ⟨g, j, none⟩ by (simp [Addr.add]; try omega)])
            rw [hu]
            exact cell_below (by repeat (first | exact Below.refl _ _ | refine Below.drew ?_ | refine Below.alloc ?_ (by first | exact Nat.le_refl _ | (simp; done) | (simp; omega) | omega) _ | refine Below.more ?_ (by first | exact Nat.le_refl _ | (simp; done) | (simp; omega) | omega) _ _ | refine Below.setCell ?_ (by first | exact Nat.le_refl _ | (simp; done) | (simp; omega) | omega) _ | assumption)) c
          case a42 =>
            intro j hj
            rw [← List.getD_eq_getElem?_getD, HTG.out j hj]
            exact (((HPS.out.below (show Below wr.heap.size wr _ from (by repeat (first | exact Below.refl _ _ | refine Below.drew ?_ | refine Below.alloc ?_ (by first | exact Nat.le_refl _ | (simp; done) | (simp; omega) | omega) _ | refine Below.more ?_ (by first | exact Nat.le_refl _ | (simp; done) | (simp; omega) | omega) _ _ | refine Below.setCell ?_ (by first | exact Nat.le_refl _ | (simp; done) | (simp; omega) | omega) _ | assumption)))).mono (by simp)).pair j (by rw [HN.out]; omega))
          case a62 => omega
          case a72 => first | omega | (simp; omega)
          intro v1 w1 A1 hp1 hg1 hloc1
          have HP1 := Lib.hid hp1
          have HB1 := Lib.hid (Below.grown (show Below wr.heap.size wr _ from (by repeat (first | exact Below.refl _ _ | refine Below.drew ?_ | refine Below.alloc ?_ (by first | exact Nat.le_refl _ | (simp; done) | (simp; omega) | omega) _ | refine Below.more ?_ (by first | exact Nat.le_refl _ | (simp; done) | (simp; omega) | omega) _ _ | refine Below.setCell ?_ (by first | exact Nat.le_refl _ | (simp; done) | (simp; omega) | omega) _ | assumption))) hg1 (by simp) (fun b hb => by simp only [Value.ownBlock, Option.some.injEq] at hb; omega))
          have HZ1 := Lib.hid (show ∀ b, v1.ownBlock = some b → wr.heap.size ≤ b from fun b hb => by
            rcases hloc1 with h | h
            · rw [h] at hb; simp only [Value.ownBlock, Option.some.injEq] at hb; omega
            · rw [h] at hb; simp at hb; omega)
          have hs1 := HB1.out.size
          clear hp1 hg1 hloc1
          go_wp2_with (at_builtin; go_loud (refine wpList_append_pairIn _ rfl _ _ rfl lo _ T A1 rfl ((HP1.out.below (by repeat (first | exact Below.refl _ _ | refine Below.drew ?_ | refine Below.alloc ?_ (by first | exact Nat.le_refl _ | (simp; done) | (simp; omega) | omega) _ | refine Below.more ?_ (by first | exact Nat.le_refl _ | (simp; done) | (simp; omega) | omega) _ _ | refine Below.setCell ?_ (by first | exact Nat.le_refl _ | (simp; done) | (simp; omega) | omega) _ | assumption))).mono (by simp; omega)) _ 1 rfl w1.heap.size ?b22 (x, y) ?b32 ?b42 ?b52 ?_))
          case b22 => simp [go_sem]
          case b32 => exact ⟨_, rfl, by omega, by first | omega | (simp; done) | (simp; omega), (heap_alloc_old _ _ (by simp)).trans (heap_alloc_new _ _)⟩
          case b42 => rw [HTL.out]; omega
          case b52 => first | omega | (simp; omega)
          intro v2 w2 hp2 hg2 hloc2 hrow2
          have HP2 := Lib.hid hp2
          have HB2 := Lib.hid (Below.grown (Below.trans HB1.out (show Below wr.heap.size w1 _ from (by repeat (first | exact Below.refl _ _ | refine Below.drew ?_ | refine Below.alloc ?_ (by first | exact Nat.le_refl _ | (simp; done) | (simp; omega) | omega) _ | refine Below.more ?_ (by first | exact Nat.le_refl _ | (simp; done) | (simp; omega) | omega) _ _ | refine Below.setCell ?_ (by first | exact Nat.le_refl _ | (simp; done) | (simp; omega) | omega) _ | assumption)))) hg2 (by first | omega | (simp; omega)) (fun b hb => HZ1.out b hb))
          have HZ2 := Lib.hid (show ∀ b, v2.ownBlock = some b → wr.heap.size ≤ b from fun b hb => by
            rcases hloc2 with h | h
            · exact HZ1.out b (h ▸ hb)
            · rw [h] at hb; simp at hb; omega)
          have hs2 := HB2.out.size
          clear hp2 hg2 hloc2 hrow2
          go_wp2_with (at_builtin; go_loud (refine wpList_append_pairsIn _ rfl _ _ rfl lo _ (T ++ [(x, y)]) _ rfl HP2.out _ _ (n - k) D (fun j => A (k + j)) ?d22 rfl ?d32 ?d42 ?d52 ?d62 ?d72 ?_))
          case d22 => exact HDL.out
          case d32 =>
            intro j hj
            obtain ⟨u, hu, _, c, _⟩ := HRD.out (k + j) (by omega)
            (try rw [show (⟨g, k, none⟩ : Addr).add j = ⟨g, k + j, none⟩ by (simp [Addr.add]; try omega)])
            rw [hu]
            first | exact cell_below HB2.out c | (exfalso; have := HKN.out; omega)
          case d42 =>
            intro j hj
            (try rw [← List.getD_eq_getElem?_getD])
            rw [HDG.out j]
            exact (((HPS.out.below HB2.out).mono hs2).pair (k + j) (by rw [HN.out]; omega))
          case d52 => rw [List.length_append, HTL.out]; first | (simp; done) | (simp; omega)
          case d62 => omega
          case d72 => omega
          intro v3 w3 A3 hp3 hg3 hloc3
          have HP3 := Lib.hid hp3
          have HB3 := Lib.hid (Below.grown HB2.out hg3 hs2 (fun b hb => HZ2.out b hb))
          clear hp3 hg3 hloc3
          go_wp2
          go_ret
          refine ⟨v3, A3, rfl, by rw [HE.out]; exact HP3.out, fun e => ?_, HB3.out⟩
          have h := HP3.out.own
          rw [e] at h
          have h0 := h.1
          rcases h.2 with ⟨_, h1⟩ | ⟨g', cap', cur, h1, _⟩
          · simp at h1
          · cases h1
    · have hk1 : ¬ (k : Int) < (n : Int) := by omega
      have HE := Lib.hid (show R = L.take k ++ (x, y) :: L.drop k from by rw [HR.out k hk HLT.out (fun h => by omega)]; simp [hlt])
      have HKN := Lib.hid (show k = n from by omega)
      by_cases hc1 : cap - k = 0
      ·
        have HTOK := trivial
        obtain ⟨T, hT⟩ : ∃ T, T = L.take k := ⟨_, rfl⟩
        obtain ⟨D, hD⟩ : ∃ D, D = L.drop k := ⟨_, rfl⟩
        rw [← hT, ← hD] at HE
        have HTL := Lib.hid (show T.length = k from by rw [hT, List.length_take, HN.out]; omega)
        have HDL := Lib.hid (show D.length = n - k from by rw [hD, List.length_drop, HN.out])
        have HTG := Lib.hid (show ∀ j, j < k → T.getD j (0, 0) = L.getD j (0, 0) from fun j hj => by rw [hT]; simp [List.getD_eq_getElem?_getD, List.getElem?_take, hj])
        have HDG := Lib.hid (show ∀ j, D.getD j (0, 0) = L.getD (k + j) (0, 0) from fun j => by rw [hD]; simp [List.getD_eq_getElem?_getD, List.getElem?_drop])
        clear hT hD
        have hkc : k ≤ cap := by omega
        go_wp2_with (at_builtin; go_loud (refine wpList_append_pairsIn _ rfl _ _ rfl lo _ [] (fun _ => none) rfl ?a13 _ _ k T A ?a23 rfl ?a33 ?a43 ?a53 ?a63 ?a73 ?_))
        case a13 => exact PairsIn.nil hlo (by simp) (heap_at_new rfl)
        case a23 => exact HTL.out
        case a33 =>
          intro j hj
          obtain ⟨u, hu, _, c, _⟩ := HRD.out j (by omega)
          (try rw [show (⟨g, 0, none⟩ : Addr).add j = ⟨g, j, none⟩ by (simp [Addr.add]; try omega)])
          rw [hu]
          exact cell_below (by repeat (first | exact Below.refl _ _ | refine Below.drew ?_ | refine Below.alloc ?_ (by first | exact Nat.le_refl _ | (simp; done) | (simp; omega) | omega) _ | refine Below.more ?_ (by first | exact Nat.le_refl _ | (simp; done) | (simp; omega) | omega) _ _ | refine Below.setCell ?_ (by first | exact Nat.le_refl _ | (simp; done) | (simp; omega) | omega) _ | assumption)) c
        case a43 =>
          intro j hj
          rw [← List.getD_eq_getElem?_getD, HTG.out j hj]
          exact (((HPS.out.below (show Below wr.heap.size wr _ from (by repeat (first | exact Below.refl _ _ | refine Below.drew ?_ | refine Below.alloc ?_ (by first | exact Nat.le_refl _ | (simp; done) | (simp; omega) | omega) _ | refine Below.more ?_ (by first | exact Nat.le_refl _ | (simp; done) | (simp; omega) | omega) _ _ | refine Below.setCell ?_ (by first | exact Nat.le_refl _ | (simp; done) | (simp; omega) | omega) _ | assumption)))).mono (by simp)).pair j (by rw [HN.out]; omega))
        case a63 => omega
        case a73 => first | omega | (simp; omega)
        intro v1 w1 A1 hp1 hg1 hloc1
        have HP1 := Lib.hid hp1
        have HB1 := Lib.hid (Below.grown (show Below wr.heap.size wr _ from (by repeat (first | exact Below.refl _ _ | refine Below.drew ?_ | refine Below.alloc ?_ (by first | exact Nat.le_refl _ | (simp; done) | (simp; omega) | omega) _ | refine Below.more ?_ (by first | exact Nat.le_refl _ | (simp; done) | (simp; omega) | omega) _ _ | refine Below.setCell ?_ (by first | exact Nat.le_refl _ | (simp; done) | (simp; omega) | omega) _ | assumption))) hg1 (by simp) (fun b hb => by simp only [Value.ownBlock, Option.some.injEq] at hb; omega))
        have HZ1 := Lib.hid (show ∀ b, v1.ownBlock = some b → wr.heap.size ≤ b from fun b hb => by
          rcases hloc1 with h | h
          · rw [h] at hb; simp only [Value.ownBlock, Option.some.injEq] at hb; omega
          · rw [h] at hb; simp at hb; omega)
        have hs1 := HB1.out.size
        clear hp1 hg1 hloc1
        go_wp2_with (at_builtin; go_loud (refine wpList_append_pairIn _ rfl _ _ rfl lo _ T A1 rfl ((HP1.out.below (by repeat (first | exact Below.refl _ _ | refine Below.drew ?_ | refine Below.alloc ?_ (by first | exact Nat.le_refl _ | (simp; done) | (simp; omega) | omega) _ | refine Below.more ?_ (by first | exact Nat.le_refl _ | (simp; done) | (simp; omega) | omega) _ _ | refine Below.setCell ?_ (by first | exact Nat.le_refl _ | (simp; done) | (simp; omega) | omega) _ | assumption))).mono (by simp; omega)) _ 1 rfl w1.heap.size ?b23 (x, y) ?b33 ?b43 ?b53 ?_))
        case b23 => simp [go_sem]
        case b33 => exact ⟨_, rfl, by omega, by first | omega | (simp; done) | (simp; omega), (heap_alloc_old _ _ (by simp)).trans (heap_alloc_new _ _)⟩
        case b43 => rw [HTL.out]; omega
        case b53 => first | omega | (simp; omega)
        intro v2 w2 hp2 hg2 hloc2 hrow2
        have HP2 := Lib.hid hp2
        have HB2 := Lib.hid (Below.grown (Below.trans HB1.out (show Below wr.heap.size w1 _ from (by repeat (first | exact Below.refl _ _ | refine Below.drew ?_ | refine Below.alloc ?_ (by first | exact Nat.le_refl _ | (simp; done) | (simp; omega) | omega) _ | refine Below.more ?_ (by first | exact Nat.le_refl _ | (simp; done) | (simp; omega) | omega) _ _ | refine Below.setCell ?_ (by first | exact Nat.le_refl _ | (simp; done) | (simp; omega) | omega) _ | assumption)))) hg2 (by first | omega | (simp; omega)) (fun b hb => HZ1.out b hb))
        have HZ2 := Lib.hid (show ∀ b, v2.ownBlock = some b → wr.heap.size ≤ b from fun b hb => by
          rcases hloc2 with h | h
          · exact HZ1.out b (h ▸ hb)
          · rw [h] at hb; simp at hb; omega)
        have hs2 := HB2.out.size
        clear hp2 hg2 hloc2 hrow2
        go_wp2_with (at_builtin; go_loud (refine wpList_append_pairsIn _ rfl _ _ rfl lo _ (T ++ [(x, y)]) _ rfl HP2.out _ _ (n - k) D (fun j => A (k + j)) ?d23 rfl ?d33 ?d43 ?d53 ?d63 ?d73 ?_))
        case d23 => exact HDL.out
        case d33 =>
          intro j hj
          obtain ⟨u, hu, _, c, _⟩ := HRD.out (k + j) (by omega)
          (try rw [show (⟨g, k, none⟩ : Addr).add j = ⟨g, k + j, none⟩ by (simp [Addr.add]; try omega)])
          rw [hu]
          first | exact cell_below HB2.out c | (exfalso; have := HKN.out; omega)
        case d43 =>
          intro j hj
          (try rw [← List.getD_eq_getElem?_getD])
          rw [HDG.out j]
          exact (((HPS.out.below HB2.out).mono hs2).pair (k + j) (by rw [HN.out]; omega))
        case d53 => rw [List.length_append, HTL.out]; first | (simp; done) | (simp; omega)
        case d63 => omega
        case d73 => omega
        intro v3 w3 A3 hp3 hg3 hloc3
        have HP3 := Lib.hid hp3
        have HB3 := Lib.hid (Below.grown HB2.out hg3 hs2 (fun b hb => HZ2.out b hb))
        clear hp3 hg3 hloc3
        go_wp2
        go_ret
        refine ⟨v3, A3, rfl, by rw [HE.out]; exact HP3.out, fun e => ?_, HB3.out⟩
        have h := HP3.out.own
        rw [e] at h
        have h0 := h.1
        rcases h.2 with ⟨_, h1⟩ | ⟨g', cap', cur, h1, _⟩
        · simp at h1
        · cases h1
      ·
        have HTOK := trivial
        obtain ⟨T, hT⟩ : ∃ T, T = L.take k := ⟨_, rfl⟩
        obtain ⟨D, hD⟩ : ∃ D, D = L.drop k := ⟨_, rfl⟩
        rw [← hT, ← hD] at HE
        have HTL := Lib.hid (show T.length = k from by rw [hT, List.length_take, HN.out]; omega)
        have HDL := Lib.hid (show D.length = n - k from by rw [hD, List.length_drop, HN.out])
        have HTG := Lib.hid (show ∀ j, j < k → T.getD j (0, 0) = L.getD j (0, 0) from fun j hj => by rw [hT]; simp [List.getD_eq_getElem?_getD, List.getElem?_take, hj])
        have HDG := Lib.hid (show ∀ j, D.getD j (0, 0) = L.getD (k + j) (0, 0) from fun j => by rw [hD]; simp [List.getD_eq_getElem?_getD, List.getElem?_drop])
        clear hT hD
        have hkc : k ≤ cap := by omega
        go_wp2_with (at_builtin; go_loud (refine wpList_append_pairsIn _ rfl _ _ rfl lo _ [] (fun _ => none) rfl ?a14 _ _ k T A ?a24 rfl ?a34 ?a44 ?a54 ?a64 ?a74 ?_))
        case a14 => exact PairsIn.nil hlo (by simp) (heap_at_new rfl)
        case a24 => exact HTL.out
        case a34 =>
          intro j hj
          obtain ⟨u, hu, _, c, _⟩ := HRD.out j (by omega)
          (try rw [show (⟨g, 0, none⟩ : Addr).add j = ⟨g, j, none⟩ by (simp [Addr.add]; try omega)])
          rw [hu]
          exact cell_below (by repeat (first | exact Below.refl _ _ | refine Below.drew ?_ | refine Below.alloc ?_ (by first | exact Nat.le_refl _ | (simp; done) | (simp; omega) | omega) _ | refine Below.more ?_ (by first | exact Nat.le_refl _ | (simp; done) | (simp; omega) | omega) _ _ | refine Below.setCell ?_ (by first | exact Nat.le_refl _ | (simp; done) | (simp; omega) | omega) _ | assumption)) c
        case a44 =>
          intro j hj
          rw [← List.getD_eq_getElem?_getD, HTG.out j hj]
          exact (((HPS.out.below (show Below wr.heap.size wr _ from (by repeat (first | exact Below.refl _ _ | refine Below.drew ?_ | refine Below.alloc ?_ (by first | exact Nat.le_refl _ | (simp; done) | (simp; omega) | omega) _ | refine Below.more ?_ (by first | exact Nat.le_refl _ | (simp; done) | (simp; omega) | omega) _ _ | refine Below.setCell ?_ (by first | exact Nat.le_refl _ | (simp; done) | (simp; omega) | omega) _ | assumption)))).mono (by simp)).pair j (by rw [HN.out]; omega))
        case a64 => omega
        case a74 => first | omega | (simp; omega)
        intro v1 w1 A1 hp1 hg1 hloc1
        have HP1 := Lib.hid hp1
        have HB1 := Lib.hid (Below.grown (show Below wr.heap.size wr _ from (by repeat (first | exact Below.refl _ _ | refine Below.drew ?_ | refine Below.alloc ?_ (by first | exact Nat.le_refl _ | (simp; done) | (simp; omega) | omega) _ | refine Below.more ?_ (by first | exact Nat.le_refl _ | (simp; done) | (simp; omega) | omega) _ _ | refine Below.setCell ?_ (by first | exact Nat.le_refl _ | (simp; done) | (simp; omega) | omega) _ | assumption))) hg1 (by simp) (fun b hb => by simp only [Value.ownBlock, Option.some.injEq] at hb; omega))
        have HZ1 := Lib.hid (show ∀ b, v1.ownBlock = some b → wr.heap.size ≤ b from fun b hb => by
          rcases hloc1 with h | h
          · rw [h] at hb; simp only [Value.ownBlock, Option.some.injEq] at hb; omega
          · rw [h] at hb; simp at hb; omega)
        have hs1 := HB1.out.size
        clear hp1 hg1 hloc1
        go_wp2_with (at_builtin; go_loud (refine wpList_append_pairIn _ rfl _ _ rfl lo _ T A1 rfl ((HP1.out.below (by repeat (first | exact Below.refl _ _ | refine Below.drew ?_ | refine Below.alloc ?_ (by first | exact Nat.le_refl _ | (simp; done) | (simp; omega) | omega) _ | refine Below.more ?_ (by first | exact Nat.le_refl _ | (simp; done) | (simp; omega) | omega) _ _ | refine Below.setCell ?_ (by first | exact Nat.le_refl _ | (simp; done) | (simp; omega) | omega) _ | assumption))).mono (by simp; omega)) _ 1 rfl w1.heap.size ?b24 (x, y) ?b34 ?b44 ?b54 ?_))
        case b24 => simp [go_sem]
        case b34 => exact ⟨_, rfl, by omega, by first | omega | (simp; done) | (simp; omega), (heap_alloc_old _ _ (by simp)).trans (heap_alloc_new _ _)⟩
        case b44 => rw [HTL.out]; omega
        case b54 => first | omega | (simp; omega)
        intro v2 w2 hp2 hg2 hloc2 hrow2
        have HP2 := Lib.hid hp2
        have HB2 := Lib.hid (Below.grown (Below.trans HB1.out (show Below wr.heap.size w1 _ from (by repeat (first | exact Below.refl _ _ | refine Below.drew ?_ | refine Below.alloc ?_ (by first | exact Nat.le_refl _ | (simp; done) | (simp; omega) | omega) _ | refine Below.more ?_ (by first | exact Nat.le_refl _ | (simp; done) | (simp; omega) | omega) _ _ | refine Below.setCell ?_ (by first | exact Nat.le_refl _ | (simp; done) | (simp; omega) | omega) _ | assumption)))) hg2 (by first | omega | (simp; omega)) (fun b hb => HZ1.out b hb))
        have HZ2 := Lib.hid (show ∀ b, v2.ownBlock = some b → wr.heap.size ≤ b from fun b hb => by
          rcases hloc2 with h | h
          · exact HZ1.out b (h ▸ hb)
          · rw [h] at hb; simp at hb; omega)
        have hs2 := HB2.out.size
        clear hp2 hg2 hloc2 hrow2
        go_wp2_with (at_builtin; go_loud (refine wpList_append_pairsIn _ rfl _ _ rfl lo _ (T ++ [(x, y)]) _ rfl HP2.out _ _ (n - k) D (fun j => A (k + j)) ?d24 rfl ?d34 ?d44 ?d54 ?d64 ?d74 ?_))
        case d24 => exact HDL.out
        case d34 =>
          intro j hj
          obtain ⟨u, hu, _, c, _⟩ := HRD.out (k + j) (by omega)
          (try rw [show (⟨g, k, none⟩ : Addr).add j = ⟨g, k + j, none⟩ by (simp [Addr.add]; try omega)])
          rw [hu]
          first | exact cell_below HB2.out c | (exfalso; have := HKN.out; omega)
        case d44 =>
          intro j hj
          (try rw [← List.getD_eq_getElem?_getD])
          rw [HDG.out j]
          exact (((HPS.out.below HB2.out).mono hs2).pair (k + j) (by rw [HN.out]; omega))
        case d54 => rw [List.length_append, HTL.out]; first | (simp; done) | (simp; omega)
        case d64 => omega
        case d74 => omega
        intro v3 w3 A3 hp3 hg3 hloc3
        have HP3 := Lib.hid hp3
        have HB3 := Lib.hid (Below.grown HB2.out hg3 hs2 (fun b hb => HZ2.out b hb))
        clear hp3 hg3 hloc3
        go_wp2
        go_ret
        refine ⟨v3, A3, rfl, by rw [HE.out]; exact HP3.out, fun e => ?_, HB3.out⟩
        have h := HP3.out.own
        rw [e] at h
        have h0 := h.1
        rcases h.2 with ⟨_, h1⟩ | ⟨g', cap', cur, h1, _⟩
        · simp at h1
        · cases h1
end Go.Proofs.YtbmhehjllchpoaaGreat
