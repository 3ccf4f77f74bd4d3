/- EdgesS, with Put ahead of it. -/
import Derived.Test.YtpfmcobkfofbjaaGreatPairsB
import Derived.Test.YtpfmcobkfofbjaaGreatEdgeMath
import Derived.Test.YtpfmcobkfofbjaaGreatEdgeLists
namespace Go.Proofs.YtpfmcobkfofbjaaGreat
open Go Go.RowKit
def joinA (A B : Nat → Option Addr) (n : Nat) : Nat → Option Addr := fun i => if i < n then A i else B (i - n)
theorem slices2_join (A B : Nat → Option Addr) (n m : Nat) : slices2 A n ++ slices2 B m = slices2 (joinA A B n) (n + m) := by
  unfold slices2
  rw [List.range_add, List.map_append, List.map_map]
  congr 1
  · exact List.map_congr_left fun i hi => by simp [joinA, List.mem_range.1 hi]
  · exact List.map_congr_left fun i hi => by simp [joinA]; intro h; omega
/-- A row gets more pairs, out of another row. -/
theorem wpList_append_pairsIn (w : World) {ops : Array Oper} {rest : List Oper} {o : Oper} {a : Act} {Q : Exit → Act → World → Prop} (hgd : o.guard = none) (s x : Operand)
    (ho : o.op = .call { callee := .builtin .append, args := #[s, x], argTypes := #[23, 23] }) (lo : Nat) (v : Value) (L : List (Int × Int)) (A : Nat → Option Addr) (hs : a.eval s = v) (h : PairsIn w lo w.heap.size v L A)
    (ad : Addr) (c m : Nat) (M : List (Int × Int)) (B : Nat → Option Addr) (hm : M.length = m) (hx : a.eval x = .slice (some ad) m c) (hn : ∀ j, j < m → w.cell? (ad.add j) = some (.slice (B j) 2 2)) (hp : ∀ j, j < m → PairIn w lo w.heap.size (B j) (M.getD j (0, 0)))
    (hl : L.length ≤ 1048576) (hm2 : m ≤ 1048576) (hbase : lo ≤ w.heap.size)
    (hK : ∀ v' w' A', PairsIn w' lo w'.heap.size v' (L ++ M) A' → w.grownBy w' v.ownBlock → (v'.ownBlock = v.ownBlock ∨ v'.ownBlock = some w.heap.size) → wpList Tryz.prog ops Q rest (a.put o.dst v') w') :
    wpList Tryz.prog ops Q (o :: rest) a w := by
  obtain ⟨i0, hi, hz0, hz1, hz2⟩ := info_parts info_IntS
  have hrow := own_row h.own
  refine wpList_append_own_at w hgd s x 23 ho lo 45 i0 _ 1 24 Tryz.underlying23 hi hz0 hz1 hz2 rfl (by decide) v L.length _ hs h.own ad m c (slices2 B m) hx (by simp [slices2]) ?_ ?_ (by simp only [maxLen]; omega) (by omega) hbase ?_
  · intro j u hu
    have hj : j < m := by
      have := (List.getElem?_eq_some_iff.1 hu).1
      simpa [slices2] using this
    have : (slices2 B m)[j]? = some (.slice (B j) 2 2) := by simp [slices2, hj]
    rw [this] at hu
    rw [← Option.some.inj hu]
    exact hn j hj
  · intro u hu
    obtain ⟨i, _, rfl⟩ := List.mem_map.1 hu
    rfl
  intro v' w' ho' hg hnil hloc
  refine hK v' w' (joinA A B L.length) ⟨?_, fun b hb => ?_, fun i hi' => ?_⟩ hg hloc
  · rw [List.length_append, hm, ← slices2_join]
    exact ho'
  · obtain ⟨_, c, fz, h2⟩ := own_row ho' b hb
    exact (Array.getElem?_eq_some_iff.1 h2).1
  · rw [List.length_append, hm] at hi'
    by_cases e : i < L.length
    · rw [show joinA A B L.length i = A i by simp [joinA, e], show (L ++ M).getD i (0, 0) = L.getD i (0, 0) by simp [List.getD_eq_getElem?_getD, List.getElem?_append_left e]]
      exact ((h.pair i e).grown hg (fun b hb => Or.inl (hrow b hb).2)).mono hg.size
    · rw [show joinA A B L.length i = B (i - L.length) by simp [joinA, e], show (L ++ M).getD i (0, 0) = M.getD (i - L.length) (0, 0) by simp [List.getD_eq_getElem?_getD, List.getElem?_append_right (Nat.le_of_not_lt e)]]
      exact ((hp (i - L.length) (by omega)).grown hg (fun b hb => Or.inl (hrow b hb).2)).mono hg.size
theorem l01Min_c (x y : Int) (w : World) : Calls Tryz.prog 44 #[.int .i64 x, .int .i64 y] w fun e w' => e = .returned (.int .i64 (min x y)) ∧ w = w' := by
  go_enter Tryz.func44, Tryz.ntmps44
  go_wp2
  all_goals (go_ret; refine ⟨ret_int ?_, rfl⟩; omega)
theorem l01Max_c (x y : Int) (w : World) : Calls Tryz.prog 45 #[.int .i64 x, .int .i64 y] w fun e w' => e = .returned (.int .i64 (max x y)) ∧ w = w' := by
  go_enter Tryz.func45, Tryz.ntmps45
  go_wp2
  all_goals (go_ret; refine ⟨ret_int ?_, rfl⟩; omega)
set_option maxRecDepth 100000 in
set_option maxHeartbeats 2000000 in
theorem l06Put_c (lo : Nat) (v : Value) (L : List (Int × Int)) (A : Nat → Option Addr) (x y : Int) (w : World) (h : PairsIn w lo w.heap.size v L A) (hnn : v ≠ .slice none 0 0) (hl : L.length ≤ 100000) (hlo : lo ≤ w.heap.size) :
    Calls Tryz.prog 43 #[v, .int .i64 x, .int .i64 y] w fun e w' => ∃ v' A', e = .returned v' ∧ PairsIn w' lo w'.heap.size v' (putE L (x, y)) A' ∧ v' ≠ .slice none 0 0 ∧ Below w.heap.size w w' := by
  have HPS := Lib.hid h
  obtain ⟨R, hR⟩ : ∃ R, R = putE L (x, y) := ⟨_, rfl⟩
  have HR := Lib.hid (show ∀ k, k ≤ L.length → (∀ i, i < k → ltE (L.getD i (0, 0)) (x, y) = true) → (k < L.length → ltE (L.getD k (0, 0)) (x, y) = false) → R = if k < L.length ∧ L.getD k (0, 0) = (x, y) then L else L.take k ++ (x, y) :: L.drop k from fun k h1 h2 h3 => hR.trans (putE_at h1 h2 h3))
  rw [← hR]
  clear hR
  obtain ⟨g, cap, hv, hnc⟩ : ∃ g cap, v = .slice (some ⟨g, 0, none⟩) L.length cap ∧ L.length ≤ cap := by
    rcases h.own.2 with ⟨e, _⟩ | ⟨g, cap, cur, rfl, _, _, hnc, _⟩
    · exact absurd e hnn
    · exact ⟨g, cap, rfl, hnc⟩
  subst hv
  have HOB := Lib.hid (show lo ≤ g ∧ g < w.heap.size from by
    obtain ⟨h1, c, fz, h2⟩ := own_row h.own g rfl
    exact ⟨h1, (Array.getElem?_eq_some_iff.1 h2).1⟩)
  clear h hnn
  generalize hn : L.length = n at *
  have HN := Lib.hid hn
  clear hn
  have HRD := Lib.hid (show ∀ i, i < n → ∃ u, A i = some ⟨u, 0, none⟩ ∧ u < w.heap.size ∧ w.cell? ⟨g, i, none⟩ = some (.slice (some ⟨u, 0, none⟩) 2 2) ∧ w.cell? ⟨u, 0, none⟩ = some (.int .i64 (L.getD i (0, 0)).1) ∧ w.cell? ⟨u, 1, none⟩ = some (.int .i64 (L.getD i (0, 0)).2) from fun i hi => by
    obtain ⟨g2, cap2, u, hv, hu, _, hus, c0, c1, c2⟩ := HPS.out.read (i := i) (by rw [HN.out]; exact hi)
    simp only [Value.slice.injEq, Option.some.injEq, Addr.mk.injEq, and_true] at hv
    obtain ⟨rfl, _⟩ := hv
    exact ⟨u, hu, hus, c0, c1, c2⟩)
  go_enter Tryz.func43, Tryz.ntmps43
  go_wp2
  go_loopw [7] (fun i wr => ∃ (k : Nat), k ≤ n ∧ i = .int .i64 k ∧ wr = w ∧ Hid (∀ i, i < k → ltE (L.getD i (0, 0)) (x, y) = true)) (fun i _ => n - (intOf i).toNat)
  case atStart => exact ⟨0, by omega, rfl, rfl, Lib.hid (fun i hi => absurd hi (Nat.not_lt_zero _))⟩
  case round =>
    obtain ⟨k, hk, rfl, rfl, HLT⟩ := hrel
    by_cases hlt : k < n
    · have hk1 : (k : Int) < (n : Int) := by omega
      obtain ⟨u, hu, hus, c0, c1, c2⟩ := HRD.out k hlt
      have HGO := Lib.hid (show ltE (L.getD k (0, 0)) (x, y) = true → ∀ i, i < k + 1 → ltE (L.getD i (0, 0)) (x, y) = true from fun h i hi => by
        by_cases e : i = k
        · subst e; exact h
        · exact HLT.out i (by omega))
      have HST := Lib.hid (show ltE (L.getD k (0, 0)) (x, y) = false → R = if L.getD k (0, 0) = (x, y) then L else L.take k ++ (x, y) :: L.drop k from fun h => by
        have := HR.out k hk HLT.out (fun _ => h)
        rw [this]; simp [hlt])
      generalize L.getD k (0, 0) = p at *
      obtain ⟨x', y'⟩ := p
      dsimp only at c1 c2
      by_cases h1 : x' < x
      · have HG := Lib.hid (HGO.out (by rw [ltE_iff]; exact .inl h1))
        go_wp2
        exact ⟨⟨k + 1, by omega, by first | rfl | go_num, by first | rfl | trivial, HG⟩, by simp only [intOf]; omega⟩
      · by_cases h2 : x' = x
        · have h2' := h2.symm
          subst h2'
          have b2 : (x == x) = true := by simp
          by_cases h3 : y' < y
          · have HG := Lib.hid (HGO.out (by rw [ltE_iff]; exact .inr ⟨rfl, h3⟩))
            go_wp2
            exact ⟨⟨k + 1, by omega, by first | rfl | go_num, by first | rfl | trivial, HG⟩, by simp only [intOf]; omega⟩
          · by_cases h4 : y' = y
            · have h4' := h4.symm
              subst h4'
              have b3 : (y == y) = true := by simp
              have HE := Lib.hid (show R = L from by rw [HST.out (by rw [← Bool.not_eq_true, ltE_iff]; first | (simp; done) | (simp; omega))]; simp)
              go_wp2
              go_ret
              exact ⟨_, rfl, ⟨A, by rw [HE.out]; exact HPS.out⟩, by simp, Below.refl _ _⟩
            · have b3 : (y' == y) = false := by simpa using h4
              have HE := Lib.hid (show R = L.take k ++ (x, y) :: L.drop k from by rw [HST.out (by rw [← Bool.not_eq_true, ltE_iff]; first | (simp; done) | (simp; omega)), if_neg (by simp; exact h4)])
              obtain ⟨T, hT⟩ : ∃ T, T = L.take k := ⟨_, rfl⟩
              obtain ⟨D, hD⟩ : ∃ D, D = L.drop k := ⟨_, rfl⟩
              rw [← hT, ← hD] at HE
              have HTL := Lib.hid (show T.length = k from by rw [hT, List.length_take, HN.out]; omega)
              have HDL := Lib.hid (show D.length = n - k from by rw [hD, List.length_drop, HN.out])
              have HTG := Lib.hid (show ∀ j, j < k → T.getD j (0, 0) = L.getD j (0, 0) from fun j hj => by rw [hT]; simp [List.getD_eq_getElem?_getD, List.getElem?_take, hj])
              have HDG := Lib.hid (show ∀ j, D.getD j (0, 0) = L.getD (k + j) (0, 0) from fun j => by rw [hD]; simp [List.getD_eq_getElem?_getD, List.getElem?_drop])
              clear hT hD
              have hkc : k ≤ cap := by omega
              go_wp2_with (at_builtin; go_loud (refine wpList_append_pairsIn _ rfl _ _ rfl lo _ [] (fun _ => none) rfl ?a11 _ _ k T A ?a21 rfl ?a31 ?a41 ?a51 ?a61 ?a71 ?_))
              case a11 => exact PairsIn.nil hlo (by simp) (heap_at_new rfl)
              case a21 => exact HTL.out
              case a31 =>
                intro j hj
                obtain ⟨u, hu, _, c, _⟩ := HRD.out j (by omega)
                (try rw [show (⟨g, 0, none⟩ : Addr).add j = ⟨g, j, none⟩ by (simp [Addr.add]; try omega)])
                rw [hu]
                exact cell_below (by repeat (first | exact Below.refl _ _ | refine Below.drew ?_ | refine Below.alloc ?_ (by first | exact Nat.le_refl _ | (simp; done) | (simp; omega) | omega) _ | refine Below.more ?_ (by first | exact Nat.le_refl _ | (simp; done) | (simp; omega) | omega) _ _ | refine Below.setCell ?_ (by first | exact Nat.le_refl _ | (simp; done) | (simp; omega) | omega) _ | assumption)) c
              case a41 =>
                intro j hj
                rw [← List.getD_eq_getElem?_getD, HTG.out j hj]
                exact (((HPS.out.below (show Below wr.heap.size wr _ from (by repeat (first | exact Below.refl _ _ | refine Below.drew ?_ | refine Below.alloc ?_ (by first | exact Nat.le_refl _ | (simp; done) | (simp; omega) | omega) _ | refine Below.more ?_ (by first | exact Nat.le_refl _ | (simp; done) | (simp; omega) | omega) _ _ | refine Below.setCell ?_ (by first | exact Nat.le_refl _ | (simp; done) | (simp; omega) | omega) _ | assumption)))).mono (by simp)).pair j (by rw [HN.out]; omega))
              case a61 => omega
              case a71 => first | omega | (simp; omega)
              intro v1 w1 A1 hp1 hg1 hloc1
              have HP1 := Lib.hid hp1
              have HB1 := Lib.hid (Below.grown (show Below wr.heap.size wr _ from (by repeat (first | exact Below.refl _ _ | refine Below.drew ?_ | refine Below.alloc ?_ (by first | exact Nat.le_refl _ | (simp; done) | (simp; omega) | omega) _ | refine Below.more ?_ (by first | exact Nat.le_refl _ | (simp; done) | (simp; omega) | omega) _ _ | refine Below.setCell ?_ (by first | exact Nat.le_refl _ | (simp; done) | (simp; omega) | omega) _ | assumption))) hg1 (by simp) (fun b hb => by simp only [Value.ownBlock, Option.some.injEq] at hb; omega))
              have HZ1 := Lib.hid (show ∀ b, v1.ownBlock = some b → wr.heap.size ≤ b from fun b hb => by
                rcases hloc1 with h | h
                · rw [h] at hb; simp only [Value.ownBlock, Option.some.injEq] at hb; omega
                · rw [h] at hb; simp at hb; omega)
              have hs1 := HB1.out.size
              clear hp1 hg1 hloc1
              go_wp2_with (at_builtin; go_loud (refine wpList_append_pairIn _ rfl _ _ rfl lo _ T A1 rfl ((HP1.out.below (by repeat (first | exact Below.refl _ _ | refine Below.drew ?_ | refine Below.alloc ?_ (by first | exact Nat.le_refl _ | (simp; done) | (simp; omega) | omega) _ | refine Below.more ?_ (by first | exact Nat.le_refl _ | (simp; done) | (simp; omega) | omega) _ _ | refine Below.setCell ?_ (by first | exact Nat.le_refl _ | (simp; done) | (simp; omega) | omega) _ | assumption))).mono (by simp; omega)) _ 1 rfl w1.heap.size ?b21 (x, y) ?b31 ?b41 ?b51 ?_))
              case b21 => simp [go_sem]
              case b31 => exact ⟨_, rfl, by omega, by first | omega | (simp; done) | (simp; omega), (heap_alloc_old _ _ (by simp)).trans (heap_alloc_new _ _)⟩
              case b41 => rw [HTL.out]; omega
              case b51 => first | omega | (simp; omega)
              intro v2 w2 hp2 hg2 hloc2 hrow2
              have HP2 := Lib.hid hp2
              have HB2 := Lib.hid (Below.grown (Below.trans HB1.out (show Below wr.heap.size w1 _ from (by repeat (first | exact Below.refl _ _ | refine Below.drew ?_ | refine Below.alloc ?_ (by first | exact Nat.le_refl _ | (simp; done) | (simp; omega) | omega) _ | refine Below.more ?_ (by first | exact Nat.le_refl _ | (simp; done) | (simp; omega) | omega) _ _ | refine Below.setCell ?_ (by first | exact Nat.le_refl _ | (simp; done) | (simp; omega) | omega) _ | assumption)))) hg2 (by first | omega | (simp; omega)) (fun b hb => HZ1.out b hb))
              have HZ2 := Lib.hid (show ∀ b, v2.ownBlock = some b → wr.heap.size ≤ b from fun b hb => by
                rcases hloc2 with h | h
                · exact HZ1.out b (h ▸ hb)
                · rw [h] at hb; simp at hb; omega)
              have hs2 := HB2.out.size
              clear hp2 hg2 hloc2 hrow2
              go_wp2_with (at_builtin; go_loud (refine wpList_append_pairsIn _ rfl _ _ rfl lo _ (T ++ [(x, y)]) _ rfl HP2.out _ _ (n - k) D (fun j => A (k + j)) ?d21 rfl ?d31 ?d41 ?d51 ?d61 ?d71 ?_))
              case d21 => exact HDL.out
              case d31 =>
                intro j hj
                obtain ⟨u, hu, _, c, _⟩ := HRD.out (k + j) (by omega)
                (try rw [show (⟨g, k, none⟩ : Addr).add j = ⟨g, k + j, none⟩ by (simp [Addr.add]; try omega)])
                rw [hu]
                first | exact cell_below HB2.out c | (exfalso; have := HKN.out; omega)
              case d41 =>
                intro j hj
                (try rw [← List.getD_eq_getElem?_getD])
                rw [HDG.out j]
                exact (((HPS.out.below HB2.out).mono hs2).pair (k + j) (by rw [HN.out]; omega))
              case d51 => rw [List.length_append, HTL.out]; first | (simp; done) | (simp; omega)
              case d61 => omega
              case d71 => omega
              intro v3 w3 A3 hp3 hg3 hloc3
              have HP3 := Lib.hid hp3
              have HB3 := Lib.hid (Below.grown HB2.out hg3 hs2 (fun b hb => HZ2.out b hb))
              clear hp3 hg3 hloc3
              go_wp2
              go_ret
              refine ⟨v3, A3, rfl, by rw [HE.out]; exact HP3.out, fun e => ?_, HB3.out⟩
              have h := HP3.out.own
              rw [e] at h
              have h0 := h.1
              rcases h.2 with ⟨_, h1⟩ | ⟨g', cap', cur, h1, _⟩
              · simp at h1
              · cases h1
        · have b2 : (x' == x) = false := by simpa using h2
          have HE := Lib.hid (show R = L.take k ++ (x, y) :: L.drop k from by rw [HST.out (by rw [← Bool.not_eq_true, ltE_iff]; first | (simp; done) | (simp; omega)), if_neg (by simp; intro e; exact absurd e h2)])
          obtain ⟨T, hT⟩ : ∃ T, T = L.take k := ⟨_, rfl⟩
          obtain ⟨D, hD⟩ : ∃ D, D = L.drop k := ⟨_, rfl⟩
          rw [← hT, ← hD] at HE
          have HTL := Lib.hid (show T.length = k from by rw [hT, List.length_take, HN.out]; omega)
          have HDL := Lib.hid (show D.length = n - k from by rw [hD, List.length_drop, HN.out])
          have HTG := Lib.hid (show ∀ j, j < k → T.getD j (0, 0) = L.getD j (0, 0) from fun j hj => by rw [hT]; simp [List.getD_eq_getElem?_getD, List.getElem?_take, hj])
          have HDG := Lib.hid (show ∀ j, D.getD j (0, 0) = L.getD (k + j) (0, 0) from fun j => by rw [hD]; simp [List.getD_eq_getElem?_getD, List.getElem?_drop])
          clear hT hD
          have hkc : k ≤ cap := by omega
          go_wp2_with (at_builtin; go_loud (refine wpList_append_pairsIn _ rfl _ _ rfl lo _ [] (fun _ => none) rfl ?a12 _ _ k T A ?a22 rfl ?a32 ?a42 ?a52 ?a62 ?a72 ?_))
          case a12 => exact PairsIn.nil hlo (by simp) (heap_at_new rfl)
          case a22 => exact HTL.out
          case a32 =>
            intro j hj
            obtain ⟨u, hu, _, c, _⟩ := HRD.out j (by omega)
            (try rw [show (⟨g, 0, none⟩ : Addr).add j = ⟨g, j, none⟩ by (simp [Addr.add]; try omega)])
            rw [hu]
            exact cell_below (by repeat (first | exact Below.refl _ _ | refine Below.drew ?_ | refine Below.alloc ?_ (by first | exact Nat.le_refl _ | (simp; done) | (simp; omega) | omega) _ | refine Below.more ?_ (by first | exact Nat.le_refl _ | (simp; done) | (simp; omega) | omega) _ _ | refine Below.setCell ?_ (by first | exact Nat.le_refl _ | (simp; done) | (simp; omega) | omega) _ | assumption)) c
          case a42 =>
            intro j hj
            rw [← List.getD_eq_getElem?_getD, HTG.out j hj]
            exact (((HPS.out.below (show Below wr.heap.size wr _ from (by repeat (first | exact Below.refl _ _ | refine Below.drew ?_ | refine Below.alloc ?_ (by first | exact Nat.le_refl _ | (simp; done) | (simp; omega) | omega) _ | refine Below.more ?_ (by first | exact Nat.le_refl _ | (simp; done) | (simp; omega) | omega) _ _ | refine Below.setCell ?_ (by first | exact Nat.le_refl _ | (simp; done) | (simp; omega) | omega) _ | assumption)))).mono (by simp)).pair j (by rw [HN.out]; omega))
          case a62 => omega
          case a72 => first | omega | (simp; omega)
          intro v1 w1 A1 hp1 hg1 hloc1
          have HP1 := Lib.hid hp1
          have HB1 := Lib.hid (Below.grown (show Below wr.heap.size wr _ from (by repeat (first | exact Below.refl _ _ | refine Below.drew ?_ | refine Below.alloc ?_ (by first | exact Nat.le_refl _ | (simp; done) | (simp; omega) | omega) _ | refine Below.more ?_ (by first | exact Nat.le_refl _ | (simp; done) | (simp; omega) | omega) _ _ | refine Below.setCell ?_ (by first | exact Nat.le_refl _ | (simp; done) | (simp; omega) | omega) _ | assumption))) hg1 (by simp) (fun b hb => by simp only [Value.ownBlock, Option.some.injEq] at hb; omega))
          have HZ1 := Lib.hid (show ∀ b, v1.ownBlock = some b → wr.heap.size ≤ b from fun b hb => by
            rcases hloc1 with h | h
            · rw [h] at hb; simp only [Value.ownBlock, Option.some.injEq] at hb; omega
            · rw [h] at hb; simp at hb; omega)
          have hs1 := HB1.out.size
          clear hp1 hg1 hloc1
          go_wp2_with (at_builtin; go_loud (refine wpList_append_pairIn _ rfl _ _ rfl lo _ T A1 rfl ((HP1.out.below (by repeat (first | exact Below.refl _ _ | refine Below.drew ?_ | refine Below.alloc ?_ (by first | exact Nat.le_refl _ | (simp; done) | (simp; omega) | omega) _ | refine Below.more ?_ (by first | exact Nat.le_refl _ | (simp; done) | (simp; omega) | omega) _ _ | refine Below.setCell ?_ (by first | exact Nat.le_refl _ | (simp; done) | (simp; omega) | omega) _ | assumption))).mono (by simp; omega)) _ 1 rfl w1.heap.size ?b22 (x, y) ?b32 ?b42 ?b52 ?_))
          case b22 => simp [go_sem]
          case b32 => exact ⟨_, rfl, by omega, by first | omega | (simp; done) | (simp; omega), (heap_alloc_old _ _ (by simp)).trans (heap_alloc_new _ _)⟩
          case b42 => rw [HTL.out]; omega
          case b52 => first | omega | (simp; omega)
          intro v2 w2 hp2 hg2 hloc2 hrow2
          have HP2 := Lib.hid hp2
          have HB2 := Lib.hid (Below.grown (Below.trans HB1.out (show Below wr.heap.size w1 _ from (by repeat (first | exact Below.refl _ _ | refine Below.drew ?_ | refine Below.alloc ?_ (by first | exact Nat.le_refl _ | (simp; done) | (simp; omega) | omega) _ | refine Below.more ?_ (by first | exact Nat.le_refl _ | (simp; done) | (simp; omega) | omega) _ _ | refine Below.setCell ?_ (by first | exact Nat.le_refl _ | (simp; done) | (simp; omega) | omega) _ | assumption)))) hg2 (by first | omega | (simp; omega)) (fun b hb => HZ1.out b hb))
          have HZ2 := Lib.hid (show ∀ b, v2.ownBlock = some b → wr.heap.size ≤ b from fun b hb => by
            rcases hloc2 with h | h
            · exact HZ1.out b (h ▸ hb)
            · rw [h] at hb; simp at hb; omega)
          have hs2 := HB2.out.size
          clear hp2 hg2 hloc2 hrow2
          go_wp2_with (at_builtin; go_loud (refine wpList_append_pairsIn _ rfl _ _ rfl lo _ (T ++ [(x, y)]) _ rfl HP2.out _ _ (n - k) D (fun j => A (k + j)) ?d22 rfl ?d32 ?d42 ?d52 ?d62 ?d72 ?_))
          case d22 => exact HDL.out
          case d32 =>
            intro j hj
            obtain ⟨u, hu, _, c, _⟩ := HRD.out (k + j) (by omega)
            (try rw [show (⟨g, k, none⟩ : Addr).add j = ⟨g, k + j, none⟩ by (simp [Addr.add]; try omega)])
            rw [hu]
            first | exact cell_below HB2.out c | (exfalso; have := HKN.out; omega)
          case d42 =>
            intro j hj
            (try rw [← List.getD_eq_getElem?_getD])
            rw [HDG.out j]
            exact (((HPS.out.below HB2.out).mono hs2).pair (k + j) (by rw [HN.out]; omega))
          case d52 => rw [List.length_append, HTL.out]; first | (simp; done) | (simp; omega)
          case d62 => omega
          case d72 => omega
          intro v3 w3 A3 hp3 hg3 hloc3
          have HP3 := Lib.hid hp3
          have HB3 := Lib.hid (Below.grown HB2.out hg3 hs2 (fun b hb => HZ2.out b hb))
          clear hp3 hg3 hloc3
          go_wp2
          go_ret
          refine ⟨v3, A3, rfl, by rw [HE.out]; exact HP3.out, fun e => ?_, HB3.out⟩
          have h := HP3.out.own
          rw [e] at h
          have h0 := h.1
          rcases h.2 with ⟨_, h1⟩ | ⟨g', cap', cur, h1, _⟩
          · simp at h1
          · cases h1
    · have hk1 : ¬ (k : Int) < (n : Int) := by omega
      have HE := Lib.hid (show R = L.take k ++ (x, y) :: L.drop k from by rw [HR.out k hk HLT.out (fun h => by omega)]; simp [hlt])
      have HKN := Lib.hid (show k = n from by omega)
      by_cases hc1 : cap - k = 0
      ·
        have HTOK := trivial
        obtain ⟨T, hT⟩ : ∃ T, T = L.take k := ⟨_, rfl⟩
        obtain ⟨D, hD⟩ : ∃ D, D = L.drop k := ⟨_, rfl⟩
        rw [← hT, ← hD] at HE
        have HTL := Lib.hid (show T.length = k from by rw [hT, List.length_take, HN.out]; omega)
        have HDL := Lib.hid (show D.length = n - k from by rw [hD, List.length_drop, HN.out])
        have HTG := Lib.hid (show ∀ j, j < k → T.getD j (0, 0) = L.getD j (0, 0) from fun j hj => by rw [hT]; simp [List.getD_eq_getElem?_getD, List.getElem?_take, hj])
        have HDG := Lib.hid (show ∀ j, D.getD j (0, 0) = L.getD (k + j) (0, 0) from fun j => by rw [hD]; simp [List.getD_eq_getElem?_getD, List.getElem?_drop])
        clear hT hD
        have hkc : k ≤ cap := by omega
        go_wp2_with (at_builtin; go_loud (refine wpList_append_pairsIn _ rfl _ _ rfl lo _ [] (fun _ => none) rfl ?a13 _ _ k T A ?a23 rfl ?a33 ?a43 ?a53 ?a63 ?a73 ?_))
        case a13 => exact PairsIn.nil hlo (by simp) (heap_at_new rfl)
        case a23 => exact HTL.out
        case a33 =>
          intro j hj
          obtain ⟨u, hu, _, c, _⟩ := HRD.out j (by omega)
          (try rw [show (⟨g, 0, none⟩ : Addr).add j = ⟨g, j, none⟩ by (simp [Addr.add]; try omega)])
          rw [hu]
          exact cell_below (by repeat (first | exact Below.refl _ _ | refine Below.drew ?_ | refine Below.alloc ?_ (by first | exact Nat.le_refl _ | (simp; done) | (simp; omega) | omega) _ | refine Below.more ?_ (by first | exact Nat.le_refl _ | (simp; done) | (simp; omega) | omega) _ _ | refine Below.setCell ?_ (by first | exact Nat.le_refl _ | (simp; done) | (simp; omega) | omega) _ | assumption)) c
        case a43 =>
          intro j hj
          rw [← List.getD_eq_getElem?_getD, HTG.out j hj]
          exact (((HPS.out.below (show Below wr.heap.size wr _ from (by repeat (first | exact Below.refl _ _ | refine Below.drew ?_ | refine Below.alloc ?_ (by first | exact Nat.le_refl _ | (simp; done) | (simp; omega) | omega) _ | refine Below.more ?_ (by first | exact Nat.le_refl _ | (simp; done) | (simp; omega) | omega) _ _ | refine Below.setCell ?_ (by first | exact Nat.le_refl _ | (simp; done) | (simp; omega) | omega) _ | assumption)))).mono (by simp)).pair j (by rw [HN.out]; omega))
        case a63 => omega
        case a73 => first | omega | (simp; omega)
        intro v1 w1 A1 hp1 hg1 hloc1
        have HP1 := Lib.hid hp1
        have HB1 := Lib.hid (Below.grown (show Below wr.heap.size wr _ from (by repeat (first | exact Below.refl _ _ | refine Below.drew ?_ | refine Below.alloc ?_ (by first | exact Nat.le_refl _ | (simp; done) | (simp; omega) | omega) _ | refine Below.more ?_ (by first | exact Nat.le_refl _ | (simp; done) | (simp; omega) | omega) _ _ | refine Below.setCell ?_ (by first | exact Nat.le_refl _ | (simp; done) | (simp; omega) | omega) _ | assumption))) hg1 (by simp) (fun b hb => by simp only [Value.ownBlock, Option.some.injEq] at hb; omega))
        have HZ1 := Lib.hid (show ∀ b, v1.ownBlock = some b → wr.heap.size ≤ b from fun b hb => by
          rcases hloc1 with h | h
          · rw [h] at hb; simp only [Value.ownBlock, Option.some.injEq] at hb; omega
          · rw [h] at hb; simp at hb; omega)
        have hs1 := HB1.out.size
        clear hp1 hg1 hloc1
        go_wp2_with (at_builtin; go_loud (refine wpList_append_pairIn _ rfl _ _ rfl lo _ T A1 rfl ((HP1.out.below (by repeat (first | exact Below.refl _ _ | refine Below.drew ?_ | refine Below.alloc ?_ (by first | exact Nat.le_refl _ | (simp; done) | (simp; omega) | omega) _ | refine Below.more ?_ (by first | exact Nat.le_refl _ | (simp; done) | (simp; omega) | omega) _ _ | refine Below.setCell ?_ (by first | exact Nat.le_refl _ | (simp; done) | (simp; omega) | omega) _ | assumption))).mono (by simp; omega)) _ 1 rfl w1.heap.size ?b23 (x, y) ?b33 ?b43 ?b53 ?_))
        case b23 => simp [go_sem]
        case b33 => exact ⟨_, rfl, by omega, by first | omega | (simp; done) | (simp; omega), (heap_alloc_old _ _ (by simp)).trans (heap_alloc_new _ _)⟩
        case b43 => rw [HTL.out]; omega
        case b53 => first | omega | (simp; omega)
        intro v2 w2 hp2 hg2 hloc2 hrow2
        have HP2 := Lib.hid hp2
        have HB2 := Lib.hid (Below.grown (Below.trans HB1.out (show Below wr.heap.size w1 _ from (by repeat (first | exact Below.refl _ _ | refine Below.drew ?_ | refine Below.alloc ?_ (by first | exact Nat.le_refl _ | (simp; done) | (simp; omega) | omega) _ | refine Below.more ?_ (by first | exact Nat.le_refl _ | (simp; done) | (simp; omega) | omega) _ _ | refine Below.setCell ?_ (by first | exact Nat.le_refl _ | (simp; done) | (simp; omega) | omega) _ | assumption)))) hg2 (by first | omega | (simp; omega)) (fun b hb => HZ1.out b hb))
        have HZ2 := Lib.hid (show ∀ b, v2.ownBlock = some b → wr.heap.size ≤ b from fun b hb => by
          rcases hloc2 with h | h
          · exact HZ1.out b (h ▸ hb)
          · rw [h] at hb; simp at hb; omega)
        have hs2 := HB2.out.size
        clear hp2 hg2 hloc2 hrow2
        go_wp2_with (at_builtin; go_loud (refine wpList_append_pairsIn _ rfl _ _ rfl lo _ (T ++ [(x, y)]) _ rfl HP2.out _ _ (n - k) D (fun j => A (k + j)) ?d23 rfl ?d33 ?d43 ?d53 ?d63 ?d73 ?_))
        case d23 => exact HDL.out
        case d33 =>
          intro j hj
          obtain ⟨u, hu, _, c, _⟩ := HRD.out (k + j) (by omega)
          (try rw [show (⟨g, k, none⟩ : Addr).add j = ⟨g, k + j, none⟩ by (simp [Addr.add]; try omega)])
          rw [hu]
          first | exact cell_below HB2.out c | (exfalso; have := HKN.out; omega)
        case d43 =>
          intro j hj
          (try rw [← List.getD_eq_getElem?_getD])
          rw [HDG.out j]
          exact (((HPS.out.below HB2.out).mono hs2).pair (k + j) (by rw [HN.out]; omega))
        case d53 => rw [List.length_append, HTL.out]; first | (simp; done) | (simp; omega)
        case d63 => omega
        case d73 => omega
        intro v3 w3 A3 hp3 hg3 hloc3
        have HP3 := Lib.hid hp3
        have HB3 := Lib.hid (Below.grown HB2.out hg3 hs2 (fun b hb => HZ2.out b hb))
        clear hp3 hg3 hloc3
        go_wp2
        go_ret
        refine ⟨v3, A3, rfl, by rw [HE.out]; exact HP3.out, fun e => ?_, HB3.out⟩
        have h := HP3.out.own
        rw [e] at h
        have h0 := h.1
        rcases h.2 with ⟨_, h1⟩ | ⟨g', cap', cur, h1, _⟩
        · simp at h1
        · cases h1
      ·
        have HTOK := trivial
        obtain ⟨T, hT⟩ : ∃ T, T = L.take k := ⟨_, rfl⟩
        obtain ⟨D, hD⟩ : ∃ D, D = L.drop k := ⟨_, rfl⟩
        rw [← hT, ← hD] at HE
        have HTL := Lib.hid (show T.length = k from by rw [hT, List.length_take, HN.out]; omega)
        have HDL := Lib.hid (show D.length = n - k from by rw [hD, List.length_drop, HN.out])
        have HTG := Lib.hid (show ∀ j, j < k → T.getD j (0, 0) = L.getD j (0, 0) from fun j hj => by rw [hT]; simp [List.getD_eq_getElem?_getD, List.getElem?_take, hj])
        have HDG := Lib.hid (show ∀ j, D.getD j (0, 0) = L.getD (k + j) (0, 0) from fun j => by rw [hD]; simp [List.getD_eq_getElem?_getD, List.getElem?_drop])
        clear hT hD
        have hkc : k ≤ cap := by omega
        go_wp2_with (at_builtin; go_loud (refine wpList_append_pairsIn _ rfl _ _ rfl lo _ [] (fun _ => none) rfl ?a14 _ _ k T A ?a24 rfl ?a34 ?a44 ?a54 ?a64 ?a74 ?_))
        case a14 => exact PairsIn.nil hlo (by simp) (heap_at_new rfl)
        case a24 => exact HTL.out
        case a34 =>
          intro j hj
          obtain ⟨u, hu, _, c, _⟩ := HRD.out j (by omega)
          (try rw [show (⟨g, 0, none⟩ : Addr).add j = ⟨g, j, none⟩ by (simp [Addr.add]; try omega)])
          rw [hu]
          exact cell_below (by repeat (first | exact Below.refl _ _ | refine Below.drew ?_ | refine Below.alloc ?_ (by first | exact Nat.le_refl _ | (simp; done) | (simp; omega) | omega) _ | refine Below.more ?_ (by first | exact Nat.le_refl _ | (simp; done) | (simp; omega) | omega) _ _ | refine Below.setCell ?_ (by first | exact Nat.le_refl _ | (simp; done) | (simp; omega) | omega) _ | assumption)) c
        case a44 =>
          intro j hj
          rw [← List.getD_eq_getElem?_getD, HTG.out j hj]
          exact (((HPS.out.below (show Below wr.heap.size wr _ from (by repeat (first | exact Below.refl _ _ | refine Below.drew ?_ | refine Below.alloc ?_ (by first | exact Nat.le_refl _ | (simp; done) | (simp; omega) | omega) _ | refine Below.more ?_ (by first | exact Nat.le_refl _ | (simp; done) | (simp; omega) | omega) _ _ | refine Below.setCell ?_ (by first | exact Nat.le_refl _ | (simp; done) | (simp; omega) | omega) _ | assumption)))).mono (by simp)).pair j (by rw [HN.out]; omega))
        case a64 => omega
        case a74 => first | omega | (simp; omega)
        intro v1 w1 A1 hp1 hg1 hloc1
        have HP1 := Lib.hid hp1
        have HB1 := Lib.hid (Below.grown (show Below wr.heap.size wr _ from (by repeat (first | exact Below.refl _ _ | refine Below.drew ?_ | refine Below.alloc ?_ (by first | exact Nat.le_refl _ | (simp; done) | (simp; omega) | omega) _ | refine Below.more ?_ (by first | exact Nat.le_refl _ | (simp; done) | (simp; omega) | omega) _ _ | refine Below.setCell ?_ (by first | exact Nat.le_refl _ | (simp; done) | (simp; omega) | omega) _ | assumption))) hg1 (by simp) (fun b hb => by simp only [Value.ownBlock, Option.some.injEq] at hb; omega))
        have HZ1 := Lib.hid (show ∀ b, v1.ownBlock = some b → wr.heap.size ≤ b from fun b hb => by
          rcases hloc1 with h | h
          · rw [h] at hb; simp only [Value.ownBlock, Option.some.injEq] at hb; omega
          · rw [h] at hb; simp at hb; omega)
        have hs1 := HB1.out.size
        clear hp1 hg1 hloc1
        go_wp2_with (at_builtin; go_loud (refine wpList_append_pairIn _ rfl _ _ rfl lo _ T A1 rfl ((HP1.out.below (by repeat (first | exact Below.refl _ _ | refine Below.drew ?_ | refine Below.alloc ?_ (by first | exact Nat.le_refl _ | (simp; done) | (simp; omega) | omega) _ | refine Below.more ?_ (by first | exact Nat.le_refl _ | (simp; done) | (simp; omega) | omega) _ _ | refine Below.setCell ?_ (by first | exact Nat.le_refl _ | (simp; done) | (simp; omega) | omega) _ | assumption))).mono (by simp; omega)) _ 1 rfl w1.heap.size ?b24 (x, y) ?b34 ?b44 ?b54 ?_))
        case b24 => simp [go_sem]
        case b34 => exact ⟨_, rfl, by omega, by first | omega | (simp; done) | (simp; omega), (heap_alloc_old _ _ (by simp)).trans (heap_alloc_new _ _)⟩
        case b44 => rw [HTL.out]; omega
        case b54 => first | omega | (simp; omega)
        intro v2 w2 hp2 hg2 hloc2 hrow2
        have HP2 := Lib.hid hp2
        have HB2 := Lib.hid (Below.grown (Below.trans HB1.out (show Below wr.heap.size w1 _ from (by repeat (first | exact Below.refl _ _ | refine Below.drew ?_ | refine Below.alloc ?_ (by first | exact Nat.le_refl _ | (simp; done) | (simp; omega) | omega) _ | refine Below.more ?_ (by first | exact Nat.le_refl _ | (simp; done) | (simp; omega) | omega) _ _ | refine Below.setCell ?_ (by first | exact Nat.le_refl _ | (simp; done) | (simp; omega) | omega) _ | assumption)))) hg2 (by first | omega | (simp; omega)) (fun b hb => HZ1.out b hb))
        have HZ2 := Lib.hid (show ∀ b, v2.ownBlock = some b → wr.heap.size ≤ b from fun b hb => by
          rcases hloc2 with h | h
          · exact HZ1.out b (h ▸ hb)
          · rw [h] at hb; simp at hb; omega)
        have hs2 := HB2.out.size
        clear hp2 hg2 hloc2 hrow2
        go_wp2_with (at_builtin; go_loud (refine wpList_append_pairsIn _ rfl _ _ rfl lo _ (T ++ [(x, y)]) _ rfl HP2.out _ _ (n - k) D (fun j => A (k + j)) ?d24 rfl ?d34 ?d44 ?d54 ?d64 ?d74 ?_))
        case d24 => exact HDL.out
        case d34 =>
          intro j hj
          obtain ⟨u, hu, _, c, _⟩ := HRD.out (k + j) (by omega)
          (try rw [show (⟨g, k, none⟩ : Addr).add j = ⟨g, k + j, none⟩ by (simp [Addr.add]; try omega)])
          rw [hu]
          first | exact cell_below HB2.out c | (exfalso; have := HKN.out; omega)
        case d44 =>
          intro j hj
          (try rw [← List.getD_eq_getElem?_getD])
          rw [HDG.out j]
          exact (((HPS.out.below HB2.out).mono hs2).pair (k + j) (by rw [HN.out]; omega))
        case d54 => rw [List.length_append, HTL.out]; first | (simp; done) | (simp; omega)
        case d64 => omega
        case d74 => omega
        intro v3 w3 A3 hp3 hg3 hloc3
        have HP3 := Lib.hid hp3
        have HB3 := Lib.hid (Below.grown HB2.out hg3 hs2 (fun b hb => HZ2.out b hb))
        clear hp3 hg3 hloc3
        go_wp2
        go_ret
        refine ⟨v3, A3, rfl, by rw [HE.out]; exact HP3.out, fun e => ?_, HB3.out⟩
        have h := HP3.out.own
        rw [e] at h
        have h0 := h.1
        rcases h.2 with ⟨_, h1⟩ | ⟨g', cap', cur, h1, _⟩
        · simp at h1
        · cases h1
end Go.Proofs.YtpfmcobkfofbjaaGreat
namespace Go.Proofs.YtpfmcobkfofbjaaGreat
open Go Go.RowKit Go.Maps
/-- Rows of pairs come back, all in blocks of one's own. -/
def GivesRows (w : World) (L : List (Int × Int)) (e : Ending) (w' : World) : Prop :=
  ∃ v A, e = .returned v ∧ PairsIn w' w.heap.size w'.heap.size v L A ∧ Below w.heap.size w w'
theorem nonnil_form {w : World} {lo hi : Nat} {v : Value} {L : List (Int × Int)} {A : Nat → Option Addr} (h : PairsIn w lo hi v L A) : ∃ a cap, v = .slice a L.length cap := h.form
set_option maxRecDepth 100000 in
set_option maxHeartbeats 2000000 in
theorem spec_Edges_c (v : Value) (p : MeshD) (w : World) (hr : MeshR w v p) (hs : MeshSz 1048576 p) :
    Calls Tryz.prog 16 #[v] w (GivesRows w (edgesD p)) := by
  have HM := Lib.hid hr
  have HS := Lib.hid hs
  obtain ⟨a, c, a', c', rfl, h1, ⟨A, K, h2, h3, h4⟩⟩ := hr
  clear hs
  cases hok : meshOkB p
  · have HE := Lib.hid (show edgesD p = [] by simp [edgesD, hok])
    have HOK := Lib.hid hok
    clear hok h1 h2 h3 h4
    go_enter Tryz.func16, Tryz.ntmps16
    go_wp2_with (go_at_call 17; refine (spec_IsValidMesh_c _ p _ (HM.out.below (by repeat (first | exact Below.refl _ _ | refine Below.drew ?_ | refine Below.alloc ?_ (by first | exact Nat.le_refl _ | (simp; done) | (simp; omega) | omega) _ | refine Below.more ?_ (by first | exact Nat.le_refl _ | (simp; done) | (simp; omega) | omega) _ _ | refine Below.setCell ?_ (by first | exact Nat.le_refl _ | (simp; done) | (simp; omega) | omega) _ | assumption))) HS.out).mono ?_; rw [HOK.out]; rintro e wn ⟨rfl, hbn⟩; obtain ⟨X, nX, rfl⟩ := Below.ext hbn; clear hbn)
    go_ret
    rw [HE.out]
    exact ⟨_, _, rfl, PairsIn.nilv, (by repeat (first | exact Below.refl _ _ | refine Below.drew ?_ | refine Below.alloc ?_ (by first | exact Nat.le_refl _ | (simp; done) | (simp; omega) | omega) _ | refine Below.more ?_ (by first | exact Nat.le_refl _ | (simp; done) | (simp; omega) | omega) _ _ | refine Below.setCell ?_ (by first | exact Nat.le_refl _ | (simp; done) | (simp; omega) | omega) _ | assumption))⟩
  · have HE := Lib.hid (show edgesD p = edgesL p.faces p.nF by simp [edgesD, hok])
    have HOK := Lib.hid hok
    have hop := meshOkB_true.1 hok
    have HFO := Lib.hid hop.2.2.2.1
    have hm64 := hop.2.1
    clear hok hop
    have HVM := Lib.hid (fun W (h : Below w.heap.size w W) => spec_IsValidMesh_c _ p W (HM.out.below h) HS.out)
    rw [HOK.out] at HVM
    clear HM HS HOK
    obtain ⟨R, hR⟩ : ∃ R, R = edgesD p := ⟨_, rfl⟩
    rw [← hR] at HE ⊢
    clear hR h1 h4
    generalize p.nV = n at *
    generalize p.nF = m at *
    generalize p.faces = s at *
    have HF := Lib.hid h2
    have HQ := Lib.hid h3
    clear h2 h3
    go_enter Tryz.func16, Tryz.ntmps16
    go_wp2_with (go_at_call 17; refine (HVM.out _ (by repeat (first | exact Below.refl _ _ | refine Below.drew ?_ | refine Below.alloc ?_ (by first | exact Nat.le_refl _ | (simp; done) | (simp; omega) | omega) _ | refine Below.more ?_ (by first | exact Nat.le_refl _ | (simp; done) | (simp; omega) | omega) _ _ | refine Below.setCell ?_ (by first | exact Nat.le_refl _ | (simp; done) | (simp; omega) | omega) _ | assumption))).mono ?_; rintro e wn ⟨rfl, hbn⟩; obtain ⟨X, nX, rfl⟩ := Below.ext hbn; clear hbn)
    go_loopw [3, 15] (fun out i wr => ∃ (k : Nat) (A : Nat → Option Addr), k ≤ m ∧ i = .int .i64 k ∧ Below w.heap.size w wr ∧ PairsIn wr w.heap.size wr.heap.size out (edgesL s k) A ∧ Hid (out ≠ .slice none 0 0)) (fun _ i _ => m - (intOf i).toNat)
    case atStart =>
      refine ⟨0, fun _ => none, by omega, rfl, (by repeat (first | exact Below.refl _ _ | refine Below.drew ?_ | refine Below.alloc ?_ (by first | exact Nat.le_refl _ | (simp; done) | (simp; omega) | omega) _ | refine Below.more ?_ (by first | exact Nat.le_refl _ | (simp; done) | (simp; omega) | omega) _ _ | refine Below.setCell ?_ (by first | exact Nat.le_refl _ | (simp; done) | (simp; omega) | omega) _ | assumption)), ?_, Lib.hid (by simp)⟩
      have h := PairsIn.nil (w := (w.alloc (.cells #[.slice a n c, .slice a' m c'] 29)).alloc (.cells #[] 45)) (lo := w.heap.size) (hi := w.heap.size + 2) (g := w.heap.size + 1) (by omega) (by omega) (heap_at_new (by simp))
      exact (h.below (by repeat (first | exact Below.refl _ _ | refine Below.drew ?_ | refine Below.alloc ?_ (by first | exact Nat.le_refl _ | (simp; done) | (simp; omega) | omega) _ | refine Below.more ?_ (by first | exact Nat.le_refl _ | (simp; done) | (simp; omega) | omega) _ _ | refine Below.setCell ?_ (by first | exact Nat.le_refl _ | (simp; done) | (simp; omega) | omega) _ | assumption))).mono (by simp; try omega)
    case round =>
      obtain ⟨k, A3, hk, rfl, hbel, hpr, HNN⟩ := hrel
      have HBEL := Lib.hid hbel
      have HPR := Lib.hid hpr
      have hbs := hbel.size
      clear hbel hpr
      by_cases hlt : k < m
      · have hk1 : (k : Int) < (m : Int) := by omega
        obtain ⟨b, o, e, hb, hc⟩ := HF.out.below HBEL.out (by omega)
        subst e
        have c0 : wr.cell? ⟨b, o + k, none⟩ = some (.slice (A k) (faceAt s k).length (K k)) := by have := hc k hlt 0 (by omega); rw [Nat.mul_one, Nat.add_zero] at this; exact this
        clear hc
        have hsl : Sl wr (A k) 1 (faceAt s k).length (intAt (faceAt s k)) := (HQ.out k hlt).below HBEL.out
        have HQL := Lib.hid (HFO.out k hlt).1
        have HSU := Lib.hid (edgesL_succ s k)
        have hln : (edgesL s k).length ≤ 256 := Nat.le_trans (edgesL_len s k) (by omega)
        generalize A k = ak at *
        generalize K k = kk at *
        generalize faceAt s k = f at *
        generalize edgesL s k = L0 at *
        rw [HQL.out] at c0 hsl
        have HSL := Lib.hid hsl
        clear hsl
        go_wp2_with (go_at_call 42; refine (l06StepsB_c _ _ f HQL _ (HSL.out.below (by repeat (first | exact Below.refl _ _ | refine Below.drew ?_ | refine Below.alloc ?_ (by first | exact Nat.le_refl _ | (simp; done) | (simp; omega) | omega) _ | refine Below.more ?_ (by first | exact Nat.le_refl _ | (simp; done) | (simp; omega) | omega) _ _ | refine Below.setCell ?_ (by first | exact Nat.le_refl _ | (simp; done) | (simp; omega) | omega) _ | assumption)))).mono ?_; rintro e wn ⟨sa, sc, A2, rfl, ho, hbn⟩; have HO := Lib.hid ho; have HBN := Lib.hid hbn; clear ho hbn)
        have HB0 := Lib.hid ((Below.trans HBEL.out (show Below w.heap.size wr wr from (by repeat (first | exact Below.refl _ _ | refine Below.drew ?_ | refine Below.alloc ?_ (by first | exact Nat.le_refl _ | (simp; done) | (simp; omega) | omega) _ | refine Below.more ?_ (by first | exact Nat.le_refl _ | (simp; done) | (simp; omega) | omega) _ _ | refine Below.setCell ?_ (by first | exact Nat.le_refl _ | (simp; done) | (simp; omega) | omega) _ | assumption)))).trans (HBN.out.mono (show w.heap.size ≤ wr.heap.size by omega)))
        have HP0 := Lib.hid ((HPR.out.below HBN.out).mono HBN.out.size)
        obtain ⟨lo, hlo⟩ : ∃ lo, lo = wr.heap.size := ⟨_, rfl⟩
        obtain ⟨hi, hhi⟩ : ∃ hi, hi = wn.heap.size := ⟨_, rfl⟩
        have HO2 := Lib.hid (show PairsIn wn lo hi (.slice sa 4 sc) (stepsOf f) A2 by rw [hlo, hhi]; exact HO.out)
        clear hlo hhi HO HBN HBEL HPR HSL hbs
        go_loopw [3, 22] (fun out i wr => ∃ (j : Nat) (A : Nat → Option Addr), j ≤ 4 ∧ i = .int .i64 j ∧ Below w.heap.size w wr ∧ PairsIn wr w.heap.size wr.heap.size out (putSteps f L0 j) A ∧ Hid (out ≠ .slice none 0 0) ∧ PairsIn wr lo hi (.slice sa 4 sc) (stepsOf f) A2) (fun _ i _ => 4 - (intOf i).toNat)
        case atStart => exact ⟨0, A3, by omega, rfl, HB0.out, HP0.out, HNN, HO2.out⟩
        case round =>
          clear HB0 HP0 HO2 HNN
          obtain ⟨j, A4, hj, rfl, hbel, hpr, HNN, hps⟩ := hrel
          have HBEL := Lib.hid hbel
          have HPR := Lib.hid hpr
          have HPS := Lib.hid hps
          have hbs := hbel.size
          clear hbel hpr hps
          by_cases hjl : j < 4
          · have hj1 : (j : Int) < 4 := by omega
            have hls : (stepsOf f).length = 4 := by rw [stepsOf, stepsTo_len, HQL.out]
            have hgd : (stepsOf f).getD j (0, 0) = stepAt f j := by
              rw [List.getD_eq_getElem?_getD, stepsOf, stepsTo, HQL.out, List.getElem?_map, List.getElem?_range hjl]; rfl
            obtain ⟨g, cap2, u, hv, _, hg, hu, d0, d1, d2⟩ := HPS.out.read (i := j) (by rw [hls]; exact hjl)
            rw [hls] at hv
            rw [hgd] at d1 d2
            simp only [Value.slice.injEq] at hv
            obtain ⟨rfl, _, rfl⟩ := hv
            clear hgd hls
            have HSS := Lib.hid (putSteps_succ f L0 j)
            have hl2 : (putSteps f L0 j).length ≤ 100000 := by have := putSteps_len f L0 j; omega
            generalize stepAt f j = pr at *
            obtain ⟨x, y⟩ := pr
            dsimp only at d1 d2
            generalize putSteps f L0 j = L at *
            go_wp2
            ((first | refine region_qt2 15 (by kernel_rfl) (by kernel_rfl) ?_ | refine region_qt 15 (by kernel_rfl) (by kernel_rfl) ?_); simp only [List.take_succ_cons, List.take_zero, List.drop_succ_cons, List.drop_zero])
            repeat (quiet_step (fail))
            (refine wpQuiet_step (fun K hK => ?_); go_simp; refine ⟨_, fun zt => ext_same (l01Min_c _ _ _), hK _ ?_⟩; clear hK K)
            repeat (quiet_step (fail))
            (refine wpQuiet_step (fun K hK => ?_); go_simp; refine ⟨_, fun zt => ext_same (l01Max_c _ _ _), hK _ ?_⟩; clear hK K)
            repeat (quiet_step (fail))
            (refine wpQuiet_nil ?_; intro X nX)
            go_wp2_with (go_at_call 43; refine (l06Put_c w.heap.size _ L A4 (min x y) (max x y) _ ((HPR.out.below (by repeat (first | exact Below.refl _ _ | refine Below.drew ?_ | refine Below.alloc ?_ (by first | exact Nat.le_refl _ | (simp; done) | (simp; omega) | omega) _ | refine Below.more ?_ (by first | exact Nat.le_refl _ | (simp; done) | (simp; omega) | omega) _ _ | refine Below.setCell ?_ (by first | exact Nat.le_refl _ | (simp; done) | (simp; omega) | omega) _ | assumption))).mono (by simp)) HNN.out hl2 (by simp; omega)).mono ?_; rintro e wq ⟨v', A', rfl, hp', hn', hb'⟩; have HP' := Lib.hid hp'; have HN' := Lib.hid hn'; have HB' := Lib.hid hb'; clear hp' hn' hb')
            refine ⟨⟨j + 1, A', by omega, by go_num, Below.trans HBEL.out (Below.trans (show Below w.heap.size wr _ from (by repeat (first | exact Below.refl _ _ | refine Below.drew ?_ | refine Below.alloc ?_ (by first | exact Nat.le_refl _ | (simp; done) | (simp; omega) | omega) _ | refine Below.more ?_ (by first | exact Nat.le_refl _ | (simp; done) | (simp; omega) | omega) _ _ | refine Below.setCell ?_ (by first | exact Nat.le_refl _ | (simp; done) | (simp; omega) | omega) _ | assumption))) (HB'.out.mono (by simp; omega))), ?_, HN', (HPS.out.below (by repeat (first | exact Below.refl _ _ | refine Below.drew ?_ | refine Below.alloc ?_ (by first | exact Nat.le_refl _ | (simp; done) | (simp; omega) | omega) _ | refine Below.more ?_ (by first | exact Nat.le_refl _ | (simp; done) | (simp; omega) | omega) _ _ | refine Below.setCell ?_ (by first | exact Nat.le_refl _ | (simp; done) | (simp; omega) | omega) _ | assumption))).below HB'.out⟩, by simp only [intOf]; omega⟩
            rw [HSS.out]
            exact HP'.out
          · have hj1 : ¬ (j : Int) < 4 := by omega
            obtain rfl : j = 4 := by omega
            have HE4 := Lib.hid (show putSteps f L0 4 = edgesL s (k + 1) from HSU.out.symm)
            go_wp2
            exact ⟨⟨k + 1, A4, by omega, rfl, HBEL.out, by rw [← HE4.out]; exact HPR.out, HNN⟩, by simp only [intOf]; omega⟩
      · have hk1 : ¬ (k : Int) < (m : Int) := by omega
        obtain rfl : k = m := by omega
        have HPR2 := Lib.hid (HE.out ▸ HPR.out)
        go_wp2
        go_ret
        exact ⟨_, A3, rfl, by rw [HE.out]; exact HPR.out, HBEL.out⟩
theorem wfE_und2 {p : Int × Int} (h : wfE p) : wfE (und p) := by
  obtain ⟨x, y⟩ := p
  obtain ⟨h1, h2⟩ := h
  unfold und wfE
  simp only [Int.min_def, Int.max_def] at *
  split <;> exact ⟨by assumption, by assumption⟩
theorem wfE_edges {p : MeshD} {x : Int × Int} (h : x ∈ edgesD p) : wfE x := by
  unfold edgesD at h
  split at h
  · obtain ⟨i, j, hi, hj, rfl⟩ := mem_edgesL h
    have hok := meshOkB_true.1 (by assumption)
    exact wfE_und2 (wfE_step (hok.2.2.2.1 i hi) (by have := hok.1; omega) hj)
  · cases h
theorem bnd_filter (p : MeshD) : bndD p = (edgesD p).filter fun e => decide ((efacesD p e.1 e.2).length = 1) := by
  unfold bndD edgesD
  split
  · unfold bndL
    refine List.filter_congr fun x hx => ?_
    rw [efacesD, if_pos (by assumption), show ((x.1, x.2) : Int × Int) = x from rfl, und_of_edge hx]
  · rfl
set_option maxRecDepth 100000 in
set_option maxHeartbeats 2000000 in
theorem spec_BoundaryEdges_c (v : Value) (p : MeshD) (w : World) (hr : MeshR w v p) (hs : MeshSz 1048576 p) :
    Calls Tryz.prog 76 #[v] w (GivesRows w (bndD p)) := by
  have HME := Lib.hid (fun W (h : Below w.heap.size w W) => spec_Edges_c _ p W (hr.below h) hs)
  have HMF := Lib.hid (fun x y hx hy W (h : Below w.heap.size w W) => spec_EdgeFaces_c _ p x y hx hy W (hr.below h) hs)
  obtain ⟨a, c, a', c', rfl, _, _⟩ := hr
  clear hs
  have HWF := Lib.hid (show ∀ k, k < (edgesD p).length → wfE ((edgesD p).getD k (0, 0)) from fun k hk => wfE_edges (by rw [List.getD_eq_getElem?_getD, List.getElem?_eq_getElem hk]; exact List.getElem_mem _))
  obtain ⟨q, hq⟩ : ∃ q : Int × Int → Bool, q = fun e => decide ((efacesD p e.1 e.2).length = 1) := ⟨_, rfl⟩
  have HB := Lib.hid (show bndD p = (edgesD p).filter q from by rw [hq]; exact bnd_filter p)
  have HQ := Lib.hid (show ∀ x y, q (x, y) = decide ((efacesD p x y).length = 1) from fun x y => by rw [hq])
  clear hq
  have hl256 := edgesD_le p
  obtain ⟨R, hR⟩ : ∃ R, R = bndD p := ⟨_, rfl⟩
  rw [← hR] at HB ⊢
  clear hR
  generalize edgesD p = L at *
  have HTK := Lib.hid (show ∀ k, k < L.length → (L.take (k + 1)).filter q = (L.take k).filter q ++ (if q (L.getD k (0, 0)) = true then [L.getD k (0, 0)] else []) from fun k hk => by
    rw [List.take_add_one, List.getElem?_eq_getElem hk, List.getD_eq_getElem?_getD, List.getElem?_eq_getElem hk, List.filter_append]
    congr 1
    simp [List.filter_cons])
  have HTL := Lib.hid (show ∀ k, ((L.take k).filter q).length ≤ 256 from fun k => by have := List.length_filter_le q (L.take k); rw [List.length_take] at this; omega)
  have HTA := Lib.hid (show L.take L.length = L from List.take_length)
  generalize hn : L.length = n at *
  have HN := Lib.hid hn
  clear hn
  generalize p.nV = nv at *
  generalize p.nF = nf at *
  go_enter Tryz.func76, Tryz.ntmps76
  go_wp2_with (go_at_call 16; refine (HME.out _ (by repeat (first | exact Below.refl _ _ | refine Below.drew ?_ | refine Below.alloc ?_ (by first | exact Nat.le_refl _ | (simp; done) | (simp; omega) | omega) _ | refine Below.more ?_ (by first | exact Nat.le_refl _ | (simp; done) | (simp; omega) | omega) _ _ | refine Below.setCell ?_ (by first | exact Nat.le_refl _ | (simp; done) | (simp; omega) | omega) _ | assumption))).mono ?_; rintro e wn ⟨vE, AE, rfl, ho, hbn⟩; have HO := Lib.hid ho; have HBN := Lib.hid hbn; obtain ⟨ea, ec, he⟩ := ho.form; rw [HN.out] at he; subst he; clear ho hbn)
  have q0 : wn.cell? ⟨w.heap.size, 0, none⟩ = some (.slice a nv c) := cell_below HBN.out (by simp [go_sem])
  have q1 : wn.cell? ⟨w.heap.size, 1, none⟩ = some (.slice a' nf c') := cell_below HBN.out (by simp [go_sem])
  have hs1 := HBN.out.size
  simp at hs1
  have HB0 := Lib.hid (Below.trans (show Below w.heap.size w _ from (by repeat (first | exact Below.refl _ _ | refine Below.drew ?_ | refine Below.alloc ?_ (by first | exact Nat.le_refl _ | (simp; done) | (simp; omega) | omega) _ | refine Below.more ?_ (by first | exact Nat.le_refl _ | (simp; done) | (simp; omega) | omega) _ _ | refine Below.setCell ?_ (by first | exact Nat.le_refl _ | (simp; done) | (simp; omega) | omega) _ | assumption))) (HBN.out.mono (by simp; try omega)))
  have HP0 : Hid (PairsIn wn (w.heap.size + 1) wn.heap.size (.slice (some ⟨w.heap.size + 1, 0, none⟩) 0 0) [] (fun _ => none)) := Lib.hid (by
    have h := PairsIn.nil (w := (w.alloc (.cells #[.slice a nv c, .slice a' nf c'] 29)).alloc (.cells #[] 45)) (lo := w.heap.size + 1) (hi := w.heap.size + 2) (g := w.heap.size + 1) (by omega) (by omega) (heap_at_new (by simp))
    exact (h.below HBN.out).mono (by omega))
  obtain ⟨lo, hlo⟩ : ∃ lo, lo = w.heap.size + 2 := ⟨_, rfl⟩
  have HLO := Lib.hid (show w.heap.size + 1 ≤ lo from by omega)
  obtain ⟨hi, hhi⟩ : ∃ hi, hi = wn.heap.size := ⟨_, rfl⟩
  have HE0 := Lib.hid (show PairsIn wn lo hi (.slice ea n ec) L AE from by rw [hlo, hhi]; simpa using HO.out)
  have HZ0 : Hid (∀ b, (Value.slice (some ⟨w.heap.size + 1, 0, none⟩) 0 0).ownBlock = some b → b < lo ∨ hi ≤ b) := Lib.hid (fun b hb => by simp only [Value.ownBlock, Option.some.injEq] at hb; omega)
  have hhi2 : hi ≤ wn.heap.size := by omega
  have hws : w.heap.size < wn.heap.size := by omega
  clear hlo hhi HO HBN hs1
  go_loopw [3, 10] (fun out i wr => ∃ (k : Nat) (A : Nat → Option Addr), k ≤ n ∧ i = .int .i64 k ∧ Below w.heap.size w wr ∧ PairsIn wr (w.heap.size + 1) wr.heap.size out ((L.take k).filter q) A ∧ PairsIn wr lo hi (.slice ea n ec) L AE ∧ Hid (∀ b, out.ownBlock = some b → b < lo ∨ hi ≤ b) ∧ hi ≤ wr.heap.size ∧ wr.cell? ⟨w.heap.size, 0, none⟩ = some (.slice a nv c) ∧ wr.cell? ⟨w.heap.size, 1, none⟩ = some (.slice a' nf c')) (fun _ i _ => n - (intOf i).toNat)
  case atStart => exact ⟨0, fun _ => none, by omega, rfl, HB0.out, HP0.out, HE0.out, HZ0, hhi2, q0, q1⟩
  case round =>
    clear HB0 HP0 HE0 HZ0 hhi2 q0 q1 hws
    obtain ⟨k, A, hk, rfl, hbel, hpr, hpe, HZ, hhi, q0, q1⟩ := hrel
    have HBEL := Lib.hid hbel
    have HPR := Lib.hid hpr
    have HPE := Lib.hid hpe
    have y1 : w.heap.size < wr.heap.size := World.block_lt_of_cell? _ _ q0
    clear hbel hpr hpe
    by_cases hlt : k < n
    · have hk1 : (k : Int) < (n : Int) := by omega
      obtain ⟨g, cap2, u, hv, hu, hg, hus, d0, d1, d2⟩ := HPE.out.read (i := k) (by rw [HN.out]; exact hlt)
      have HPI := Lib.hid (HPE.out.pair k (by rw [HN.out]; exact hlt))
      rw [hu] at HPI
      rw [HN.out] at hv
      simp only [Value.slice.injEq] at hv
      obtain ⟨rfl, _, rfl⟩ := hv
      have HTK1 := Lib.hid (HTK.out k hlt)
      have HWF1 := Lib.hid (HWF.out k hlt)
      have hl2 : ((L.take k).filter q).length ≤ 1048576 := Nat.le_trans (HTL.out k) (by omega)
      generalize L.getD k (0, 0) = pr at *
      obtain ⟨x, y⟩ := pr
      dsimp only at d1 d2
      have HQ1 := Lib.hid (HQ.out x y)
      have HFC := Lib.hid (fun W h => HMF.out x y HWF1.out.1 HWF1.out.2 W h)
      clear hu
      generalize (efacesD p x y) = fs at *
      generalize (L.take k).filter q = M at *
      cases hqv : q (x, y)
      · have HM1 := Lib.hid (show (L.take (k + 1)).filter q = M from by rw [HTK1.out, hqv]; simp)
        have HF1 := Lib.hid (show ¬ fs.length = 1 from by rw [HQ1.out] at hqv; simpa using hqv)
        have hb1 : ((fs.length : Int) == 1) = false := by have := HF1.out; simp; omega
        go_wp2
        ((first | refine region_qt2 7 (by kernel_rfl) (by kernel_rfl) ?_ | refine region_qt 7 (by kernel_rfl) (by kernel_rfl) ?_); simp only [List.take_succ_cons, List.take_zero, List.drop_succ_cons, List.drop_zero])
        repeat (quiet_step (fail))
        (refine wpQuiet_nil ?_; intro X nX)
        go_wp2_with (go_at_call 54; refine (HFC.out _ (Below.trans HBEL.out (by repeat (first | exact Below.refl _ _ | refine Below.drew ?_ | refine Below.alloc ?_ (by first | exact Nat.le_refl _ | (simp; done) | (simp; omega) | omega) _ | refine Below.more ?_ (by first | exact Nat.le_refl _ | (simp; done) | (simp; omega) | omega) _ _ | refine Below.setCell ?_ (by first | exact Nat.le_refl _ | (simp; done) | (simp; omega) | omega) _ | assumption)))).mono ?_; rintro e wq ⟨fa, fc, rfl, _, hb'⟩; have HB' := Lib.hid hb'; clear hb')
        have HBQ := Lib.hid (Below.trans (show Below wr.heap.size wr _ from (by repeat (first | exact Below.refl _ _ | refine Below.drew ?_ | refine Below.alloc ?_ (by first | exact Nat.le_refl _ | (simp; done) | (simp; omega) | omega) _ | refine Below.more ?_ (by first | exact Nat.le_refl _ | (simp; done) | (simp; omega) | omega) _ _ | refine Below.setCell ?_ (by first | exact Nat.le_refl _ | (simp; done) | (simp; omega) | omega) _ | assumption))) (HB'.out.mono (by simp)))
        exact ⟨⟨k + 1, A, by omega, by go_num, Below.trans HBEL.out (HBQ.out.mono (by omega)), by rw [HM1.out]; exact (HPR.out.below HBQ.out).mono HBQ.out.size, HPE.out.below HBQ.out, HZ, Nat.le_trans hhi HBQ.out.size, cell_below HBQ.out q0, cell_below HBQ.out q1⟩, by simp only [intOf]; omega⟩
      · have HM1 := Lib.hid (show (L.take (k + 1)).filter q = M ++ [(x, y)] from by rw [HTK1.out, hqv]; simp)
        have HF1 := Lib.hid (show fs.length = 1 from by rw [HQ1.out] at hqv; simpa using hqv)
        have hb1 : ((fs.length : Int) == 1) = true := by have := HF1.out; simp; omega
        go_wp2
        ((first | refine region_qt2 7 (by kernel_rfl) (by kernel_rfl) ?_ | refine region_qt 7 (by kernel_rfl) (by kernel_rfl) ?_); simp only [List.take_succ_cons, List.take_zero, List.drop_succ_cons, List.drop_zero])
        repeat (quiet_step (fail))
        (refine wpQuiet_nil ?_; intro X nX)
        go_wp2_with (first | (go_at_call 54; refine (HFC.out _ (Below.trans HBEL.out (by repeat (first | exact Below.refl _ _ | refine Below.drew ?_ | refine Below.alloc ?_ (by first | exact Nat.le_refl _ | (simp; done) | (simp; omega) | omega) _ | refine Below.more ?_ (by first | exact Nat.le_refl _ | (simp; done) | (simp; omega) | omega) _ _ | refine Below.setCell ?_ (by first | exact Nat.le_refl _ | (simp; done) | (simp; omega) | omega) _ | assumption)))).mono ?_; rintro e wq ⟨fa, fc, rfl, _, hb'⟩; have HBQ := Lib.hid (Below.trans (show Below wr.heap.size wr _ from (by repeat (first | exact Below.refl _ _ | refine Below.drew ?_ | refine Below.alloc ?_ (by first | exact Nat.le_refl _ | (simp; done) | (simp; omega) | omega) _ | refine Below.more ?_ (by first | exact Nat.le_refl _ | (simp; done) | (simp; omega) | omega) _ _ | refine Below.setCell ?_ (by first | exact Nat.le_refl _ | (simp; done) | (simp; omega) | omega) _ | assumption))) (hb'.mono (by simp))); clear hb'; have HPR1 := Lib.hid ((HPR.out.below HBQ.out).mono HBQ.out.size); have hqs := HBQ.out.size) | (at_builtin; go_loud (refine wpList_append_pairIn _ rfl _ _ rfl (w.heap.size + 1) _ M A rfl ((HPR1.out.below (by repeat (first | exact Below.refl _ _ | refine Below.drew ?_ | refine Below.alloc ?_ (by first | exact Nat.le_refl _ | (simp; done) | (simp; omega) | omega) _ | refine Below.more ?_ (by first | exact Nat.le_refl _ | (simp; done) | (simp; omega) | omega) _ _ | refine Below.setCell ?_ (by first | exact Nat.le_refl _ | (simp; done) | (simp; omega) | omega) _ | assumption))).mono (by simp)) _ 1 rfl u ?b2 (x, y) ?b3 hl2 ?b4 ?_)))
        case b2 => simp [go_sem]
        case b3 =>
          obtain ⟨g2, e2, h1, h2, h3⟩ := HPI.out
          simp only [Option.some.injEq, Addr.mk.injEq, and_true] at e2
          subst e2
          exact ⟨_, rfl, by have := HLO.out; omega, by simp; omega, (heap_alloc_old _ _ (by omega)).trans ((HBQ.out.block _ hus).trans h3)⟩
        case b4 => first | omega | (simp; omega)
        intro v' w' hp' hg' hloc' hrow'
        have HP' := Lib.hid hp'
        have HBW := Lib.hid (show Below w.heap.size w wq from Below.trans HBEL.out (HBQ.out.mono (by omega)))
        have HB' := Lib.hid (Below.grown (Below.trans HBW.out (show Below w.heap.size wq _ from (by repeat (first | exact Below.refl _ _ | refine Below.drew ?_ | refine Below.alloc ?_ (by first | exact Nat.le_refl _ | (simp; done) | (simp; omega) | omega) _ | refine Below.more ?_ (by first | exact Nat.le_refl _ | (simp; done) | (simp; omega) | omega) _ _ | refine Below.setCell ?_ (by first | exact Nat.le_refl _ | (simp; done) | (simp; omega) | omega) _ | assumption)))) hg' (by first | omega | (simp; omega)) (fun b hb => by have := (HPR.out.lt b hb).1; omega))
        have HPE' := Lib.hid (((HPE.out.below HBQ.out).below (show Below wq.heap.size wq _ from (by repeat (first | exact Below.refl _ _ | refine Below.drew ?_ | refine Below.alloc ?_ (by first | exact Nat.le_refl _ | (simp; done) | (simp; omega) | omega) _ | refine Below.more ?_ (by first | exact Nat.le_refl _ | (simp; done) | (simp; omega) | omega) _ _ | refine Below.setCell ?_ (by first | exact Nat.le_refl _ | (simp; done) | (simp; omega) | omega) _ | assumption)))).grown hg' (fun b hb => HZ.out b hb))
        have hs' := hg'.size
        simp at hs'
        have HZ' : Hid (∀ b, v'.ownBlock = some b → b < lo ∨ hi ≤ b) := Lib.hid (fun b hb => by
          rcases hloc' with h | h
          · exact HZ.out b (h ▸ hb)
          · rw [h] at hb; simp at hb; omega)
        have hne : u3.ownBlock ≠ some w.heap.size := fun e => by have := (HPR.out.lt _ e).1; omega
        have z0 : w'.cell? ⟨w.heap.size, 0, none⟩ = some (.slice a nv c) := (World.cell?_of_block (hg'.block _ (by first | omega | (simp; omega)) (fun e => hne e.symm))).trans (cell_below (show Below wq.heap.size wq _ from (by repeat (first | exact Below.refl _ _ | refine Below.drew ?_ | refine Below.alloc ?_ (by first | exact Nat.le_refl _ | (simp; done) | (simp; omega) | omega) _ | refine Below.more ?_ (by first | exact Nat.le_refl _ | (simp; done) | (simp; omega) | omega) _ _ | refine Below.setCell ?_ (by first | exact Nat.le_refl _ | (simp; done) | (simp; omega) | omega) _ | assumption))) (cell_below HBQ.out q0))
        have z1 : w'.cell? ⟨w.heap.size, 1, none⟩ = some (.slice a' nf c') := (World.cell?_of_block (hg'.block _ (by first | omega | (simp; omega)) (fun e => hne e.symm))).trans (cell_below (show Below wq.heap.size wq _ from (by repeat (first | exact Below.refl _ _ | refine Below.drew ?_ | refine Below.alloc ?_ (by first | exact Nat.le_refl _ | (simp; done) | (simp; omega) | omega) _ | refine Below.more ?_ (by first | exact Nat.le_refl _ | (simp; done) | (simp; omega) | omega) _ _ | refine Below.setCell ?_ (by first | exact Nat.le_refl _ | (simp; done) | (simp; omega) | omega) _ | assumption))) (cell_below HBQ.out q1))
        clear hp' hg' hloc' hrow'
        go_wp2
        exact ⟨⟨k + 1, _, by omega, by first | rfl | go_num, HB'.out, by rw [HM1.out]; exact HP'.out, HPE'.out, HZ', by omega, z0, z1⟩, by simp only [intOf]; omega⟩
    · have hk1 : ¬ (k : Int) < (n : Int) := by omega
      obtain rfl : k = n := by omega
      rw [HTA.out, ← HB.out] at HPR
      go_wp2
      go_ret
      exact ⟨_, A, rfl, HPR.out.lower (by omega), HBEL.out⟩
end Go.Proofs.YtpfmcobkfofbjaaGreat
